/- The formulas of 17 functions of the program, written by program (gen.py); the kernel checks each. No condition. -/
import Derived.Test.YtjbeembbnkmpeaaDoorQPDoes2
namespace Go.Proofs.YtjbeembbnkmpeaaDoor
open Sh
set_option linter.unusedVariables false
set_option maxRecDepth 100000

def C66 (n1 : Int) (w : World) (R : Bool → World → Prop) : Prop :=
  Calls Tryd.prog 66 #[.int .i64 n1] w fun e w' => ∃ r0 : Bool, e = .returned (.bool r0) ∧ R r0 w'
theorem C66.mono {n1 : Int} {w : World} {R R' : Bool → World → Prop} (h : C66 n1 w R) (hr : ∀ r0 w', R r0 w' → R' r0 w') : C66 n1 w R' :=
  Calls.mono h fun _ _ ⟨r0, he, hR⟩ => ⟨r0, he, hr _ _ hR⟩
def C87 (m1 : Option Addr) (w : World) (R : (Option Addr × Option Addr × Option Addr × Option Addr × Option Addr × Option Addr) → World → Prop) : Prop :=
  Calls Tryd.prog 87 #[.pointer m1] w fun e w' => ∃ r0 : Option Addr × Option Addr × Option Addr × Option Addr × Option Addr × Option Addr, e = .returned (.agg #[.pointer r0.1, .pointer r0.2.1, .pointer r0.2.2.1, .pointer r0.2.2.2.1, .pointer r0.2.2.2.2.1, .pointer r0.2.2.2.2.2]) ∧ R r0 w'
theorem C87.mono {m1 : Option Addr} {w : World} {R R' : (Option Addr × Option Addr × Option Addr × Option Addr × Option Addr × Option Addr) → World → Prop} (h : C87 m1 w R) (hr : ∀ r0 w', R r0 w' → R' r0 w') : C87 m1 w R' :=
  Calls.mono h fun _ _ ⟨r0, he, hR⟩ => ⟨r0, he, hr _ _ hR⟩
def C26 (m1 : Int × Int × Int × Int × Int × Int) (w : World) (R : Int → World → Prop) : Prop :=
  Calls Tryd.prog 26 #[.agg #[.int .i64 (m1.1), .int .i64 (m1.2.1), .int .i64 (m1.2.2.1), .int .i64 (m1.2.2.2.1), .int .i64 (m1.2.2.2.2.1), .int .i64 (m1.2.2.2.2.2)]] w fun e w' => ∃ r0 : Int, e = .returned (.int .i64 r0) ∧ R r0 w'
theorem C26.mono {m1 : Int × Int × Int × Int × Int × Int} {w : World} {R R' : Int → World → Prop} (h : C26 m1 w R) (hr : ∀ r0 w', R r0 w' → R' r0 w') : C26 m1 w R' :=
  Calls.mono h fun _ _ ⟨r0, he, hR⟩ => ⟨r0, he, hr _ _ hR⟩
def C62 (x1 : Value) (why2 : Option Addr) (w : World) (R : World → Prop) (PR : Value → World → Prop) : Prop :=
  Calls Tryd.prog 62 #[x1, .pointer why2] w fun e w' => (e = .returned (.tuple #[]) ∧ R w') ∨ ∃ v, e = .panicked (onePanic v) ∧ PR v w'
theorem C62.mono {x1 : Value} {why2 : Option Addr} {w : World} {R R' : World → Prop} {PR PR' : Value → World → Prop} (h : C62 x1 why2 w R PR) (hr : ∀ w', R w' → R' w') (hp : ∀ v w', PR v w' → PR' v w') : C62 x1 why2 w R' PR' :=
  Calls.mono h fun _ _ he => he.elim (fun ⟨he, hR⟩ => .inl ⟨he, hr _ hR⟩) fun ⟨v, he, hP⟩ => .inr ⟨v, he, hp _ _ hP⟩
def CD61 (c1 : Addr) (c2 : Addr) (u : Option Value) (w : World) (R : World → Prop) : Prop := CallD Tryd.prog 61 #[.pointer (some c1), .pointer (some c2)] u w R
theorem CD61.mono {c1 : Addr} {c2 : Addr} {u : Option Value} {w : World} {R R' : World → Prop} (h : CD61 c1 c2 u w R) (hr : ∀ w', R w' → R' w') : CD61 c1 c2 u w R' :=
  CallsD.mono h fun _ _ _ ⟨h1, h2, h3⟩ => ⟨h1, h2, hr _ h3⟩
def C63 (why1 : Int) (w : World) (R : World → Prop) (PR : Value → World → Prop) : Prop :=
  Calls Tryd.prog 63 #[.int .i64 why1] w fun e w' => (e = .returned (.tuple #[]) ∧ R w') ∨ ∃ v, e = .panicked (onePanic v) ∧ PR v w'
theorem C63.mono {why1 : Int} {w : World} {R R' : World → Prop} {PR PR' : Value → World → Prop} (h : C63 why1 w R PR) (hr : ∀ w', R w' → R' w') (hp : ∀ v w', PR v w' → PR' v w') : C63 why1 w R' PR' :=
  Calls.mono h fun _ _ he => he.elim (fun ⟨he, hR⟩ => .inl ⟨he, hr _ hR⟩) fun ⟨v, he, hP⟩ => .inr ⟨v, he, hp _ _ hP⟩
def C64 (l1 : Slc) (w : World) (R : Int → World → Prop) (PR : Value → World → Prop) : Prop :=
  Calls Tryd.prog 64 #[Slc.v l1] w fun e w' => (∃ r0 : Int, e = .returned (.int .i64 r0) ∧ R r0 w') ∨ ∃ v, e = .panicked (onePanic v) ∧ PR v w'
theorem C64.mono {l1 : Slc} {w : World} {R R' : Int → World → Prop} {PR PR' : Value → World → Prop} (h : C64 l1 w R PR) (hr : ∀ r0 w', R r0 w' → R' r0 w') (hp : ∀ v w', PR v w' → PR' v w') : C64 l1 w R' PR' :=
  Calls.mono h fun _ _ he => he.elim (fun ⟨r0, he, hR⟩ => .inl ⟨r0, he, hr _ _ hR⟩) fun ⟨v, he, hP⟩ => .inr ⟨v, he, hp _ _ hP⟩
def C18 (a1 : Int × Int × Int × Int × Int × Int) (b2 : Int × Int × Int × Int × Int × Int) (w : World) (R : (Int × Int × Int × Int × Int × Int) → Int → World → Prop) : Prop :=
  Calls Tryd.prog 18 #[.agg #[.int .i64 (a1.1), .int .i64 (a1.2.1), .int .i64 (a1.2.2.1), .int .i64 (a1.2.2.2.1), .int .i64 (a1.2.2.2.2.1), .int .i64 (a1.2.2.2.2.2)], .agg #[.int .i64 (b2.1), .int .i64 (b2.2.1), .int .i64 (b2.2.2.1), .int .i64 (b2.2.2.2.1), .int .i64 (b2.2.2.2.2.1), .int .i64 (b2.2.2.2.2.2)]] w fun e w' => ∃ r0 : Int × Int × Int × Int × Int × Int, ∃ r1 : Int, e = .returned (.tuple #[.agg #[.int .i64 (r0.1), .int .i64 (r0.2.1), .int .i64 (r0.2.2.1), .int .i64 (r0.2.2.2.1), .int .i64 (r0.2.2.2.2.1), .int .i64 (r0.2.2.2.2.2)], .int .i64 r1]) ∧ R r0 r1 w'
theorem C18.mono {a1 : Int × Int × Int × Int × Int × Int} {b2 : Int × Int × Int × Int × Int × Int} {w : World} {R R' : (Int × Int × Int × Int × Int × Int) → Int → World → Prop} (h : C18 a1 b2 w R) (hr : ∀ r0 r1 w', R r0 r1 w' → R' r0 r1 w') : C18 a1 b2 w R' :=
  Calls.mono h fun _ _ ⟨r0, r1, he, hR⟩ => ⟨r0, r1, he, hr _ _ _ hR⟩
def CD65 (c1 : Addr) (c2 : Addr) (u : Option Value) (w : World) (R : World → Prop) : Prop := CallD Tryd.prog 65 #[.pointer (some c1), .pointer (some c2)] u w R
theorem CD65.mono {c1 : Addr} {c2 : Addr} {u : Option Value} {w : World} {R R' : World → Prop} (h : CD65 c1 c2 u w R) (hr : ∀ w', R w' → R' w') : CD65 c1 c2 u w R' :=
  CallsD.mono h fun _ _ _ ⟨h1, h2, h3⟩ => ⟨h1, h2, hr _ h3⟩
def C19 (m1 : Int × Int × Int × Int × Int × Int) (p2 : Int × Int) (w : World) (R : (Int × Int) → Int → World → Prop) : Prop :=
  Calls Tryd.prog 19 #[.agg #[.int .i64 (m1.1), .int .i64 (m1.2.1), .int .i64 (m1.2.2.1), .int .i64 (m1.2.2.2.1), .int .i64 (m1.2.2.2.2.1), .int .i64 (m1.2.2.2.2.2)], .agg #[.int .i64 (p2.1), .int .i64 (p2.2)]] w fun e w' => ∃ r0 : Int × Int, ∃ r1 : Int, e = .returned (.tuple #[.agg #[.int .i64 (r0.1), .int .i64 (r0.2)], .int .i64 r1]) ∧ R r0 r1 w'
theorem C19.mono {m1 : Int × Int × Int × Int × Int × Int} {p2 : Int × Int} {w : World} {R R' : (Int × Int) → Int → World → Prop} (h : C19 m1 p2 w R) (hr : ∀ r0 r1 w', R r0 r1 w' → R' r0 r1 w') : C19 m1 p2 w R' :=
  Calls.mono h fun _ _ ⟨r0, r1, he, hR⟩ => ⟨r0, r1, he, hr _ _ _ hR⟩
def C14 (w : World) (R : (Int × Int × Int × Int × Int × Int) → World → Prop) : Prop :=
  Calls Tryd.prog 14 #[] w fun e w' => ∃ r0 : Int × Int × Int × Int × Int × Int, e = .returned (.agg #[.int .i64 (r0.1), .int .i64 (r0.2.1), .int .i64 (r0.2.2.1), .int .i64 (r0.2.2.2.1), .int .i64 (r0.2.2.2.2.1), .int .i64 (r0.2.2.2.2.2)]) ∧ R r0 w'
theorem C14.mono {w : World} {R R' : (Int × Int × Int × Int × Int × Int) → World → Prop} (h : C14 w R) (hr : ∀ r0 w', R r0 w' → R' r0 w') : C14 w R' :=
  Calls.mono h fun _ _ ⟨r0, he, hR⟩ => ⟨r0, he, hr _ _ hR⟩
def C106 (l1 : Slc) (w : World) (R : Bool → World → Prop) : Prop :=
  Calls Tryd.prog 106 #[Slc.v l1] w fun e w' => ∃ r0 : Bool, e = .returned (.bool r0) ∧ R r0 w'
theorem C106.mono {l1 : Slc} {w : World} {R R' : Bool → World → Prop} (h : C106 l1 w R) (hr : ∀ r0 w', R r0 w' → R' r0 w') : C106 l1 w R' :=
  Calls.mono h fun _ _ ⟨r0, he, hR⟩ => ⟨r0, he, hr _ _ hR⟩
def C49 (m1 : Int × Int × Int × Int × Int × Int) (w : World) (R : Int → World → Prop) : Prop :=
  Calls Tryd.prog 49 #[.agg #[.int .i64 (m1.1), .int .i64 (m1.2.1), .int .i64 (m1.2.2.1), .int .i64 (m1.2.2.2.1), .int .i64 (m1.2.2.2.2.1), .int .i64 (m1.2.2.2.2.2)]] w fun e w' => ∃ r0 : Int, e = .returned (.int .i64 r0) ∧ R r0 w'
theorem C49.mono {m1 : Int × Int × Int × Int × Int × Int} {w : World} {R R' : Int → World → Prop} (h : C49 m1 w R) (hr : ∀ r0 w', R r0 w' → R' r0 w') : C49 m1 w R' :=
  Calls.mono h fun _ _ ⟨r0, he, hR⟩ => ⟨r0, he, hr _ _ hR⟩
def C172 (a1 : Int × Int × Int × Int × Int × Int) (b2 : Int × Int × Int × Int × Int × Int) (w : World) (R : (Int × Int × Int × Int × Int × Int) → Int → World → Prop) : Prop :=
  Calls Tryd.prog 172 #[.agg #[.int .i64 (a1.1), .int .i64 (a1.2.1), .int .i64 (a1.2.2.1), .int .i64 (a1.2.2.2.1), .int .i64 (a1.2.2.2.2.1), .int .i64 (a1.2.2.2.2.2)], .agg #[.int .i64 (b2.1), .int .i64 (b2.2.1), .int .i64 (b2.2.2.1), .int .i64 (b2.2.2.2.1), .int .i64 (b2.2.2.2.2.1), .int .i64 (b2.2.2.2.2.2)]] w fun e w' => ∃ r0 : Int × Int × Int × Int × Int × Int, ∃ r1 : Int, e = .returned (.tuple #[.agg #[.int .i64 (r0.1), .int .i64 (r0.2.1), .int .i64 (r0.2.2.1), .int .i64 (r0.2.2.2.1), .int .i64 (r0.2.2.2.2.1), .int .i64 (r0.2.2.2.2.2)], .int .i64 r1]) ∧ R r0 r1 w'
theorem C172.mono {a1 : Int × Int × Int × Int × Int × Int} {b2 : Int × Int × Int × Int × Int × Int} {w : World} {R R' : (Int × Int × Int × Int × Int × Int) → Int → World → Prop} (h : C172 a1 b2 w R) (hr : ∀ r0 r1 w', R r0 r1 w' → R' r0 r1 w') : C172 a1 b2 w R' :=
  Calls.mono h fun _ _ ⟨r0, r1, he, hR⟩ => ⟨r0, r1, he, hr _ _ _ hR⟩
def C45 (m1 : Int × Int × Int × Int × Int × Int) (p2 : Int × Int) (w : World) (R : (Int × Int) → Int → World → Prop) : Prop :=
  Calls Tryd.prog 45 #[.agg #[.int .i64 (m1.1), .int .i64 (m1.2.1), .int .i64 (m1.2.2.1), .int .i64 (m1.2.2.2.1), .int .i64 (m1.2.2.2.2.1), .int .i64 (m1.2.2.2.2.2)], .agg #[.int .i64 (p2.1), .int .i64 (p2.2)]] w fun e w' => ∃ r0 : Int × Int, ∃ r1 : Int, e = .returned (.tuple #[.agg #[.int .i64 (r0.1), .int .i64 (r0.2)], .int .i64 r1]) ∧ R r0 r1 w'
theorem C45.mono {m1 : Int × Int × Int × Int × Int × Int} {p2 : Int × Int} {w : World} {R R' : (Int × Int) → Int → World → Prop} (h : C45 m1 p2 w R) (hr : ∀ r0 r1 w', R r0 r1 w' → R' r0 r1 w') : C45 m1 p2 w R' :=
  Calls.mono h fun _ _ ⟨r0, r1, he, hR⟩ => ⟨r0, r1, he, hr _ _ _ hR⟩
def C44 (w : World) (R : (Int × Int × Int × Int × Int × Int) → World → Prop) : Prop :=
  Calls Tryd.prog 44 #[] w fun e w' => ∃ r0 : Int × Int × Int × Int × Int × Int, e = .returned (.agg #[.int .i64 (r0.1), .int .i64 (r0.2.1), .int .i64 (r0.2.2.1), .int .i64 (r0.2.2.2.1), .int .i64 (r0.2.2.2.2.1), .int .i64 (r0.2.2.2.2.2)]) ∧ R r0 w'
theorem C44.mono {w : World} {R R' : (Int × Int × Int × Int × Int × Int) → World → Prop} (h : C44 w R) (hr : ∀ r0 w', R r0 w' → R' r0 w') : C44 w R' :=
  Calls.mono h fun _ _ ⟨r0, he, hR⟩ => ⟨r0, he, hr _ _ hR⟩
def C96 (x1 : Int) (y2 : Int) (w : World) (R : (Int × Int × Int × Int × Int × Int) → World → Prop) : Prop :=
  Calls Tryd.prog 96 #[.int .i64 x1, .int .i64 y2] w fun e w' => ∃ r0 : Int × Int × Int × Int × Int × Int, e = .returned (.agg #[.int .i64 (r0.1), .int .i64 (r0.2.1), .int .i64 (r0.2.2.1), .int .i64 (r0.2.2.2.1), .int .i64 (r0.2.2.2.2.1), .int .i64 (r0.2.2.2.2.2)]) ∧ R r0 w'
theorem C96.mono {x1 : Int} {y2 : Int} {w : World} {R R' : (Int × Int × Int × Int × Int × Int) → World → Prop} (h : C96 x1 y2 w R) (hr : ∀ r0 w', R r0 w' → R' r0 w') : C96 x1 y2 w R' :=
  Calls.mono h fun _ _ ⟨r0, he, hR⟩ => ⟨r0, he, hr _ _ hR⟩

/-- foliant/matrix.out -/
def S66 (n1 : Int) (w : World) (R : Bool → World → Prop) : Prop :=
  Br (decide (n1 < (-1073741824))) (R true w) (R (decide (n1 > 1073741824)) w)
def pl66 : Plan := (.seq (.reg .seq) (.seq (.reg .seq) .leaf))
set_option maxRecDepth 100000 in
theorem T66 (n1 : Int) (w : World) (R : Bool → World → Prop) (h : S66 n1 w R) : C66 n1 w R := by
  have e : fnT Tryd.prog ⟨FF, MAY, (fun _ _ => False)⟩ pl66 Tryd.f66 [.int .i64 n1] w [(.one .bool)] (fun s w => R s w) = S66 n1 w R := by kernel_rfl
  exact (fn_calls okF okM Tryd.func66 (by kernel_rfl) (by kernel_rfl) (e.mpr h)).mono fun _ _ ⟨s, he, hR⟩ => ⟨s, he, hR⟩

/-- foliant/matrix.parts -/
def S87 (m1 : Option Addr) (w : World) (R : (Option Addr × Option Addr × Option Addr × Option Addr × Option Addr × Option Addr) → World → Prop) : Prop :=
  Nw w (.cells #[.pointer none, .pointer none, .pointer none, .pointer none, .pointer none, .pointer none] 150) fun vw2 =>
  Nn m1 fun a3 =>
  Nn m1 fun a4 =>
  Nn m1 fun a5 =>
  Nn m1 fun a6 =>
  Nn m1 fun a7 =>
  Nn m1 fun a8 =>
  St vw2.drew (⟨w.heap.size, 0, none⟩ : Addr) (.pointer (some a3)) fun vw9 =>
  St vw9 ((⟨w.heap.size, 0, none⟩ : Addr).add 1) (.pointer (some (a4.add 1))) fun vw10 =>
  St vw10 ((⟨w.heap.size, 0, none⟩ : Addr).add 2) (.pointer (some (a5.add 2))) fun vw11 =>
  St vw11 ((⟨w.heap.size, 0, none⟩ : Addr).add 3) (.pointer (some (a6.add 3))) fun vw12 =>
  St vw12 ((⟨w.heap.size, 0, none⟩ : Addr).add 4) (.pointer (some (a7.add 4))) fun vw13 =>
  St vw13 ((⟨w.heap.size, 0, none⟩ : Addr).add 5) (.pointer (some (a8.add 5))) fun vw14 =>
  Ld vw14 (⟨w.heap.size, 0, none⟩ : Addr) Value.pointer fun (x15 : Option Addr) =>
  Ld vw14 ((⟨w.heap.size, 0, none⟩ : Addr).add 1) Value.pointer fun (x16 : Option Addr) =>
  Ld vw14 ((⟨w.heap.size, 0, none⟩ : Addr).add 2) Value.pointer fun (x17 : Option Addr) =>
  Ld vw14 ((⟨w.heap.size, 0, none⟩ : Addr).add 3) Value.pointer fun (x18 : Option Addr) =>
  Ld vw14 ((⟨w.heap.size, 0, none⟩ : Addr).add 4) Value.pointer fun (x19 : Option Addr) =>
  Ld vw14 ((⟨w.heap.size, 0, none⟩ : Addr).add 5) Value.pointer fun (x20 : Option Addr) =>
  R (x15, x16, x17, x18, x19, x20) vw14
def pl87 : Plan := (.seq (.reg .seq) (.seq (.reg (.tail 18)) .leaf))
set_option maxRecDepth 100000 in
theorem T87 (m1 : Option Addr) (w : World) (R : (Option Addr × Option Addr × Option Addr × Option Addr × Option Addr × Option Addr) → World → Prop) (h : S87 m1 w R) : C87 m1 w R := by
  have e : fnT Tryd.prog ⟨FF, MAY, (fun _ _ => False)⟩ pl87 Tryd.f87 [.pointer m1] w [(.agg [.ptr, .ptr, .ptr, .ptr, .ptr, .ptr])] (fun s w => R s w) = S87 m1 w R := by kernel_rfl
  exact (fn_calls okF okM Tryd.func87 (by kernel_rfl) (by kernel_rfl) (e.mpr h)).mono fun _ _ ⟨s, he, hR⟩ => ⟨s, he, hR⟩

def S26L1 (r3 : Option Addr × Option Addr × Option Addr × Option Addr × Option Addr × Option Addr) (R : Int → World → Prop) (I7 : Int → World → Prop) (s5 : Int) (vw6 : World) : Prop :=
  Br (decide (s5 < 6)) (0 ≤ s5 ∧ s5 < (6 : Nat) ∧ ∃ x8 : Option Addr, (#[.pointer r3.1, .pointer r3.2.1, .pointer r3.2.2.1, .pointer r3.2.2.2.1, .pointer r3.2.2.2.2.1, .pointer r3.2.2.2.2.2] : Array Value)[(s5).toNat * 1]? = some (.pointer x8) ∧ Nn x8 fun a9 =>
    Ld vw6 a9 (Value.int .i64) fun (x10 : Int) =>
    C66 x10 vw6 fun r11 vw12 =>
      Br r11 (R 2 vw12) (I7 (IntKind.i64.wrap (s5 + 1)) vw12)) (R 0 vw6)
/-- foliant/matrix.Check -/
def S26 (m1 : Int × Int × Int × Int × Int × Int) (w : World) (R : Int → World → Prop) : Prop :=
  Nw w (.cells #[.int .i64 (m1.1), .int .i64 (m1.2.1), .int .i64 (m1.2.2.1), .int .i64 (m1.2.2.2.1), .int .i64 (m1.2.2.2.2.1), .int .i64 (m1.2.2.2.2.2)] 23) fun vw2 =>
  C87 (some (⟨w.heap.size, 0, none⟩ : Addr)) vw2 fun r3 vw4 =>
    Lp (σ := Int) (S26L1 r3 R) 0 vw4
def pl26 : Plan := (.seq (.reg .seq) (.seq (.seq (.reg .seq) (.block (.loop [(6, (.one (.int .i64)))] [5] (.seq (.reg .seq) (.seq (.cond .leaf .leaf) (.seq (.block (.seq (.reg .seq) (.seq (.reg .seq) (.cond (.seq (.reg .seq) .leaf) .leaf)))) (.reg .seq))))))) (.seq (.reg .seq) .leaf)))
set_option maxRecDepth 100000 in
theorem T26 (m1 : Int × Int × Int × Int × Int × Int) (w : World) (R : Int → World → Prop) (h : S26 m1 w R) : C26 (m1.1, m1.2.1, m1.2.2.1, m1.2.2.2.1, m1.2.2.2.2.1, m1.2.2.2.2.2) w R := by
  have e : fnT Tryd.prog ⟨FF, MAY, (fun _ _ => False)⟩ pl26 Tryd.f26 [.agg #[.int .i64 (m1.1), .int .i64 (m1.2.1), .int .i64 (m1.2.2.1), .int .i64 (m1.2.2.2.1), .int .i64 (m1.2.2.2.2.1), .int .i64 (m1.2.2.2.2.2)]] w [(.one (.int .i64))] (fun s w => R s w) = S26 m1 w R := by kernel_rfl
  exact (fn_calls okF okM Tryd.func26 (by kernel_rfl) (by kernel_rfl) (e.mpr h)).mono fun _ _ ⟨s, he, hR⟩ => ⟨s, he, hR⟩

/-- foliant/matrix.caught -/
def S62_nil (why2 : Option Addr) (w : World) (R : World → Prop) (PR : Value → World → Prop) : Prop :=
  R w
def pl62_nil : Plan := (.seq (.reg .seq) (.block (.seq (.reg .seq) (.cond (.reg .seq) (.seq (.reg .seq) (.cond (.seq (.reg .seq) (.reg .seq)) (.seq (.reg .seq) (.reg .seq))))))))
set_option maxRecDepth 100000 in
theorem T62_nil (why2 : Option Addr) (w : World) (R : World → Prop) (PR : Value → World → Prop) (h : S62_nil why2 w R PR) : C62 Value.nilIface why2 w R PR := by
  have e : fnT Tryd.prog ⟨FF, MAY, PR⟩ pl62_nil Tryd.f62 [Value.nilIface, .pointer why2] w [] (fun _ w => R w) = S62_nil why2 w R PR := by kernel_rfl
  exact (fn_callsP okF okM Tryd.func62 (by kernel_rfl) (by kernel_rfl) (e.mpr h)).mono fun _ _ he => he.elim (fun ⟨_, he, hR⟩ => .inl ⟨he, hR⟩) .inr

/-- foliant/matrix.caught -/
def S62_T197 (x2 : Int) (why3 : Option Addr) (w : World) (R : World → Prop) (PR : Value → World → Prop) : Prop :=
  Nw w (.cells #[.int .i64 0] 197) fun vw4 =>
  St vw4 (⟨w.heap.size, 0, none⟩ : Addr) (.int .i64 x2) fun vw5 =>
  Ld vw5 (⟨w.heap.size, 0, none⟩ : Addr) (Value.int .i64) fun (x6 : Int) =>
  Nn why3 fun a7 =>
  St vw5 a7 (.int .i64 x6) fun vw8 =>
  R vw8
def pl62_T197 : Plan := (.seq (.reg .seq) (.block (.seq (.reg .seq) (.cond (.reg .seq) (.seq (.reg .seq) (.cond (.seq (.reg .seq) (.reg .seq)) (.seq (.reg .seq) (.reg .seq))))))))
set_option maxRecDepth 100000 in
theorem T62_T197 (x2 : Int) (why3 : Option Addr) (w : World) (R : World → Prop) (PR : Value → World → Prop) (h : S62_T197 x2 why3 w R PR) : C62 (.iface 197 (.agg #[.int .i64 x2])) why3 w R PR := by
  have e : fnT Tryd.prog ⟨FF, MAY, PR⟩ pl62_T197 Tryd.f62 [.iface 197 (.agg #[.int .i64 x2]), .pointer why3] w [] (fun _ w => R w) = S62_T197 x2 why3 w R PR := by kernel_rfl
  exact (fn_callsP okF okM Tryd.func62 (by kernel_rfl) (by kernel_rfl) (e.mpr h)).mono fun _ _ he => he.elim (fun ⟨_, he, hR⟩ => .inl ⟨he, hR⟩) .inr

/-- foliant/matrix.Mul$1 -/
def S61_nil (c1 : Addr) (c2 : Addr) (w : World) (R : World → Prop) : Prop :=
  C62 Value.nilIface (some c1) w (fun vw3 =>
    Ld vw3 c1 (Value.int .i64) fun (x4 : Int) =>
    Br (x4 != 0) (St vw3 c2 (.int .i64 0) fun vw5 =>
      St vw5 (c2.add 1) (.int .i64 0) fun vw6 =>
      St vw6 (c2.add 2) (.int .i64 0) fun vw7 =>
      St vw7 (c2.add 3) (.int .i64 0) fun vw8 =>
      St vw8 (c2.add 4) (.int .i64 0) fun vw9 =>
      St vw9 (c2.add 5) (.int .i64 0) fun vw10 =>
      R vw10) (R vw3)) (fun _ _ => False)
def pl61_nil : Plan := (.seq (.reg .seq) (.cond (.reg .seq) .leaf))
set_option maxRecDepth 100000 in
theorem T61_nil (c1 : Addr) (c2 : Addr) (w : World) (R : World → Prop) (h : S61_nil c1 c2 w R) : CD61 c1 c2 none w R := by
  have e : fnTS Tryd.prog FF MAY pl61_nil Tryd.f61 [.pointer (some c1), .pointer (some c2)] none w R = S61_nil c1 c2 w R := by kernel_rfl
  exact fnS_calls okF okM Tryd.func61 (by kernel_rfl) (by kernel_rfl) (e.mpr h)

/-- foliant/matrix.Mul$1 -/
def S61_T197 (c1 : Addr) (c2 : Addr) (u3 : Int) (w : World) (R : World → Prop) : Prop :=
  C62 (.iface 197 (.agg #[.int .i64 u3])) (some c1) w (fun vw4 =>
    Ld vw4 c1 (Value.int .i64) fun (x5 : Int) =>
    Br (x5 != 0) (St vw4 c2 (.int .i64 0) fun vw6 =>
      St vw6 (c2.add 1) (.int .i64 0) fun vw7 =>
      St vw7 (c2.add 2) (.int .i64 0) fun vw8 =>
      St vw8 (c2.add 3) (.int .i64 0) fun vw9 =>
      St vw9 (c2.add 4) (.int .i64 0) fun vw10 =>
      St vw10 (c2.add 5) (.int .i64 0) fun vw11 =>
      R vw11) (R vw4)) (fun _ _ => False)
def pl61_T197 : Plan := (.seq (.reg .seq) (.cond (.reg .seq) .leaf))
set_option maxRecDepth 100000 in
theorem T61_T197 (c1 : Addr) (c2 : Addr) (u3 : Int) (w : World) (R : World → Prop) (h : S61_T197 c1 c2 u3 w R) : CD61 c1 c2 (some (.iface 197 (.agg #[.int .i64 u3]))) w R := by
  have e : fnTS Tryd.prog FF MAY pl61_T197 Tryd.f61 [.pointer (some c1), .pointer (some c2)] (some (.iface 197 (.agg #[.int .i64 u3]))) w R = S61_T197 c1 c2 u3 w R := by kernel_rfl
  exact fnS_calls okF okM Tryd.func61 (by kernel_rfl) (by kernel_rfl) (e.mpr h)

/-- foliant/matrix.need -/
def S63 (why1 : Int) (w : World) (R : World → Prop) (PR : Value → World → Prop) : Prop :=
  Br (why1 != 0) (PR (.iface 197 (.agg #[.int .i64 why1])) w) (R w)
def pl63 : Plan := (.seq (.reg .seq) (.cond (.reg .seq) .leaf))
set_option maxRecDepth 100000 in
theorem T63 (why1 : Int) (w : World) (R : World → Prop) (PR : Value → World → Prop) (h : S63 why1 w R PR) : C63 why1 w R PR := by
  have e : fnT Tryd.prog ⟨FF, MAY, PR⟩ pl63 Tryd.f63 [.int .i64 why1] w [] (fun _ w => R w) = S63 why1 w R PR := by kernel_rfl
  exact (fn_callsP okF okM Tryd.func63 (by kernel_rfl) (by kernel_rfl) (e.mpr h)).mono fun _ _ he => he.elim (fun ⟨_, he, hR⟩ => .inl ⟨he, hR⟩) .inr

/-- foliant/matrix.dot -/
def S64 (l1 : Slc) (w : World) (R : Int → World → Prop) (PR : Value → World → Prop) : Prop :=
  C125 l1 w fun r2 r3 vw4 =>
    C63 r3 vw4 (fun vw5 =>
      C66 r2 vw5 fun r6 vw7 =>
        Br r6 (C63 2 vw7 (fun vw8 =>
            R r2 vw8) PR) (R r2 vw7)) PR
def pl64 : Plan := (.seq (.reg .seq) (.seq (.reg .seq) (.seq (.reg .seq) (.seq (.seq (.reg .seq) (.cond (.reg .seq) .leaf)) (.seq (.reg .seq) .leaf)))))
set_option maxRecDepth 100000 in
theorem T64 (l1 : Slc) (w : World) (R : Int → World → Prop) (PR : Value → World → Prop) (h : S64 l1 w R PR) : C64 l1 w R PR := by
  have e : fnT Tryd.prog ⟨FF, MAY, PR⟩ pl64 Tryd.f64 [Slc.v l1] w [(.one (.int .i64))] (fun s w => R s w) = S64 l1 w R PR := by kernel_rfl
  exact (fn_callsP okF okM Tryd.func64 (by kernel_rfl) (by kernel_rfl) (e.mpr h)).mono fun _ _ he => he.elim (fun ⟨s, he, hR⟩ => .inl ⟨s, he, hR⟩) .inr

def S18P (vw4 : World) (vw5 : World) (R : (Int × Int × Int × Int × Int × Int) → Int → World → Prop) (x8 : Value) (vw7 : World) : Prop :=
  CD61 (⟨vw5.heap.size, 0, none⟩ : Addr) (⟨vw4.heap.size, 0, none⟩ : Addr) (some x8) vw7 fun vw9 =>
    Ld vw9 (⟨vw4.heap.size, 0, none⟩ : Addr) (Value.int .i64) fun (x10 : Int) =>
    Ld vw9 ((⟨vw4.heap.size, 0, none⟩ : Addr).add 1) (Value.int .i64) fun (x11 : Int) =>
    Ld vw9 ((⟨vw4.heap.size, 0, none⟩ : Addr).add 2) (Value.int .i64) fun (x12 : Int) =>
    Ld vw9 ((⟨vw4.heap.size, 0, none⟩ : Addr).add 3) (Value.int .i64) fun (x13 : Int) =>
    Ld vw9 ((⟨vw4.heap.size, 0, none⟩ : Addr).add 4) (Value.int .i64) fun (x14 : Int) =>
    Ld vw9 ((⟨vw4.heap.size, 0, none⟩ : Addr).add 5) (Value.int .i64) fun (x15 : Int) =>
    Ld vw9 (⟨vw5.heap.size, 0, none⟩ : Addr) (Value.int .i64) fun (x16 : Int) =>
    R (x10, x11, x12, x13, x14, x15) x16 vw9
/-- foliant/matrix.Mul -/
def S18 (a1 : Int × Int × Int × Int × Int × Int) (b2 : Int × Int × Int × Int × Int × Int) (w : World) (R : (Int × Int × Int × Int × Int × Int) → Int → World → Prop) : Prop :=
  Nw w (.cells #[.int .i64 (a1.1), .int .i64 (a1.2.1), .int .i64 (a1.2.2.1), .int .i64 (a1.2.2.2.1), .int .i64 (a1.2.2.2.2.1), .int .i64 (a1.2.2.2.2.2)] 23) fun vw3 =>
  Nw vw3 (.cells #[.int .i64 (b2.1), .int .i64 (b2.2.1), .int .i64 (b2.2.2.1), .int .i64 (b2.2.2.2.1), .int .i64 (b2.2.2.2.2.1), .int .i64 (b2.2.2.2.2.2)] 23) fun vw4 =>
  Nw vw4 (.cells #[.int .i64 0, .int .i64 0, .int .i64 0, .int .i64 0, .int .i64 0, .int .i64 0] 23) fun vw5 =>
  Nw vw5 (.cells #[.int .i64 0] 38) fun vw6 =>
  Ld vw6 (⟨w.heap.size, 0, none⟩ : Addr) (Value.int .i64) fun (x17 : Int) =>
  Ld vw6 ((⟨w.heap.size, 0, none⟩ : Addr).add 1) (Value.int .i64) fun (x18 : Int) =>
  Ld vw6 ((⟨w.heap.size, 0, none⟩ : Addr).add 2) (Value.int .i64) fun (x19 : Int) =>
  Ld vw6 ((⟨w.heap.size, 0, none⟩ : Addr).add 3) (Value.int .i64) fun (x20 : Int) =>
  Ld vw6 ((⟨w.heap.size, 0, none⟩ : Addr).add 4) (Value.int .i64) fun (x21 : Int) =>
  Ld vw6 ((⟨w.heap.size, 0, none⟩ : Addr).add 5) (Value.int .i64) fun (x22 : Int) =>
  C26 (x17, x18, x19, x20, x21, x22) vw6 fun r23 vw24 =>
    C63 r23 vw24 (fun vw25 =>
      Ld vw25 (⟨vw3.heap.size, 0, none⟩ : Addr) (Value.int .i64) fun (x26 : Int) =>
      Ld vw25 ((⟨vw3.heap.size, 0, none⟩ : Addr).add 1) (Value.int .i64) fun (x27 : Int) =>
      Ld vw25 ((⟨vw3.heap.size, 0, none⟩ : Addr).add 2) (Value.int .i64) fun (x28 : Int) =>
      Ld vw25 ((⟨vw3.heap.size, 0, none⟩ : Addr).add 3) (Value.int .i64) fun (x29 : Int) =>
      Ld vw25 ((⟨vw3.heap.size, 0, none⟩ : Addr).add 4) (Value.int .i64) fun (x30 : Int) =>
      Ld vw25 ((⟨vw3.heap.size, 0, none⟩ : Addr).add 5) (Value.int .i64) fun (x31 : Int) =>
      C26 (x26, x27, x28, x29, x30, x31) vw25 fun r32 vw33 =>
        C63 r32 vw33 (fun vw34 =>
          ∃ vS35 : World → Prop, vS35 vw34.drew ∧ LdS vS35 (⟨w.heap.size, 0, none⟩ : Addr) (Value.int .i64) fun (x36 : Int) =>
          LdS vS35 (⟨vw3.heap.size, 0, none⟩ : Addr) (Value.int .i64) fun (x37 : Int) =>
          LdS vS35 ((⟨w.heap.size, 0, none⟩ : Addr).add 1) (Value.int .i64) fun (x38 : Int) =>
          LdS vS35 ((⟨vw3.heap.size, 0, none⟩ : Addr).add 2) (Value.int .i64) fun (x39 : Int) =>
          LdS vS35 (⟨w.heap.size, 0, none⟩ : Addr) (Value.int .i64) fun (x40 : Int) =>
          LdS vS35 ((⟨vw3.heap.size, 0, none⟩ : Addr).add 1) (Value.int .i64) fun (x41 : Int) =>
          LdS vS35 ((⟨w.heap.size, 0, none⟩ : Addr).add 1) (Value.int .i64) fun (x42 : Int) =>
          LdS vS35 ((⟨vw3.heap.size, 0, none⟩ : Addr).add 3) (Value.int .i64) fun (x43 : Int) =>
          LdS vS35 ((⟨w.heap.size, 0, none⟩ : Addr).add 2) (Value.int .i64) fun (x44 : Int) =>
          LdS vS35 (⟨vw3.heap.size, 0, none⟩ : Addr) (Value.int .i64) fun (x45 : Int) =>
          LdS vS35 ((⟨w.heap.size, 0, none⟩ : Addr).add 3) (Value.int .i64) fun (x46 : Int) =>
          LdS vS35 ((⟨vw3.heap.size, 0, none⟩ : Addr).add 2) (Value.int .i64) fun (x47 : Int) =>
          LdS vS35 ((⟨w.heap.size, 0, none⟩ : Addr).add 2) (Value.int .i64) fun (x48 : Int) =>
          LdS vS35 ((⟨vw3.heap.size, 0, none⟩ : Addr).add 1) (Value.int .i64) fun (x49 : Int) =>
          LdS vS35 ((⟨w.heap.size, 0, none⟩ : Addr).add 3) (Value.int .i64) fun (x50 : Int) =>
          LdS vS35 ((⟨vw3.heap.size, 0, none⟩ : Addr).add 3) (Value.int .i64) fun (x51 : Int) =>
          LdS vS35 ((⟨w.heap.size, 0, none⟩ : Addr).add 4) (Value.int .i64) fun (x52 : Int) =>
          LdS vS35 (⟨vw3.heap.size, 0, none⟩ : Addr) (Value.int .i64) fun (x53 : Int) =>
          LdS vS35 ((⟨w.heap.size, 0, none⟩ : Addr).add 5) (Value.int .i64) fun (x54 : Int) =>
          LdS vS35 ((⟨vw3.heap.size, 0, none⟩ : Addr).add 2) (Value.int .i64) fun (x55 : Int) =>
          LdS vS35 ((⟨vw3.heap.size, 0, none⟩ : Addr).add 4) (Value.int .i64) fun (x56 : Int) =>
          LdS vS35 ((⟨w.heap.size, 0, none⟩ : Addr).add 4) (Value.int .i64) fun (x57 : Int) =>
          LdS vS35 ((⟨vw3.heap.size, 0, none⟩ : Addr).add 1) (Value.int .i64) fun (x58 : Int) =>
          LdS vS35 ((⟨w.heap.size, 0, none⟩ : Addr).add 5) (Value.int .i64) fun (x59 : Int) =>
          LdS vS35 ((⟨vw3.heap.size, 0, none⟩ : Addr).add 3) (Value.int .i64) fun (x60 : Int) =>
          LdS vS35 ((⟨vw3.heap.size, 0, none⟩ : Addr).add 5) (Value.int .i64) fun (x61 : Int) =>
          ∃ le62 : World → World → Prop, ∃ B63 : World → Prop, B63 vw34.drew ∧ ∃ G64 : Slc → World → Prop, (∀ (x65 : Slc) (vw66 : World) (vw67 : World), le62 vw66 vw67 → G64 x65 vw66 → G64 x65 vw67) ∧
          ∃ G68 : Int → World → Prop, (∀ (x69 : Int) (vw70 : World) (vw71 : World), le62 vw70 vw71 → G68 x69 vw70 → G68 x69 vw71) ∧
          ∃ G72 : Slc → World → Prop, (∀ (x73 : Slc) (vw74 : World) (vw75 : World), le62 vw74 vw75 → G72 x73 vw74 → G72 x73 vw75) ∧
          ∃ G76 : Int → World → Prop, (∀ (x77 : Int) (vw78 : World) (vw79 : World), le62 vw78 vw79 → G76 x77 vw78 → G76 x77 vw79) ∧
          ∃ G80 : Slc → World → Prop, (∀ (x81 : Slc) (vw82 : World) (vw83 : World), le62 vw82 vw83 → G80 x81 vw82 → G80 x81 vw83) ∧
          ∃ G84 : Int → World → Prop, (∀ (x85 : Int) (vw86 : World) (vw87 : World), le62 vw86 vw87 → G84 x85 vw86 → G84 x85 vw87) ∧
          ∃ G88 : Slc → World → Prop, (∀ (x89 : Slc) (vw90 : World) (vw91 : World), le62 vw90 vw91 → G88 x89 vw90 → G88 x89 vw91) ∧
          ∃ G92 : Int → World → Prop, (∀ (x93 : Int) (vw94 : World) (vw95 : World), le62 vw94 vw95 → G92 x93 vw94 → G92 x93 vw95) ∧
          ∃ G96 : Slc → World → Prop, (∀ (x97 : Slc) (vw98 : World) (vw99 : World), le62 vw98 vw99 → G96 x97 vw98 → G96 x97 vw99) ∧
          ∃ G100 : Int → World → Prop, (∀ (x101 : Int) (vw102 : World) (vw103 : World), le62 vw102 vw103 → G100 x101 vw102 → G100 x101 vw103) ∧
          ∃ G104 : Slc → World → Prop, (∀ (x105 : Slc) (vw106 : World) (vw107 : World), le62 vw106 vw107 → G104 x105 vw106 → G104 x105 vw107) ∧
          ((∀ (vw108 : World), vS35 vw108 → B63 vw108 → Nw vw108 (.cells #[.int .i64 x36, .int .i64 x37, .int .i64 x38, .int .i64 x39] 2) fun vw109 =>
            vS35 vw109 ∧ B63 vw109 ∧ le62 vw108 vw109 ∧ ∃ x110 : Slc, (Slc.v ((⟨some ⟨vw108.heap.size, 0, none⟩, 4, 4⟩ : Slc)) : Value) = Slc.v x110 ∧ G64 x110 vw109) ∧
          (∀ (vw111 : World), vS35 vw111 → B63 vw111 → ∀ (x112 : Slc), G64 x112 vw111 → C64 x112 vw111 (fun r113 vw114 =>
              vS35 vw114 ∧ B63 vw114 ∧ le62 vw111 vw114 ∧ ∃ x115 : Int, (.int .i64 r113 : Value) = .int .i64 x115 ∧ G68 x115 vw114) (S18P vw4 vw5 R)) ∧
          (∀ (vw116 : World), vS35 vw116 → B63 vw116 → Nw vw116 (.cells #[.int .i64 x40, .int .i64 x41, .int .i64 x42, .int .i64 x43] 2) fun vw117 =>
            vS35 vw117 ∧ B63 vw117 ∧ le62 vw116 vw117 ∧ ∃ x118 : Slc, (Slc.v ((⟨some ⟨vw116.heap.size, 0, none⟩, 4, 4⟩ : Slc)) : Value) = Slc.v x118 ∧ G72 x118 vw117) ∧
          (∀ (vw119 : World), vS35 vw119 → B63 vw119 → ∀ (x120 : Slc), G72 x120 vw119 → C64 x120 vw119 (fun r121 vw122 =>
              vS35 vw122 ∧ B63 vw122 ∧ le62 vw119 vw122 ∧ ∃ x123 : Int, (.int .i64 r121 : Value) = .int .i64 x123 ∧ G76 x123 vw122) (S18P vw4 vw5 R)) ∧
          (∀ (vw124 : World), vS35 vw124 → B63 vw124 → Nw vw124 (.cells #[.int .i64 x44, .int .i64 x45, .int .i64 x46, .int .i64 x47] 2) fun vw125 =>
            vS35 vw125 ∧ B63 vw125 ∧ le62 vw124 vw125 ∧ ∃ x126 : Slc, (Slc.v ((⟨some ⟨vw124.heap.size, 0, none⟩, 4, 4⟩ : Slc)) : Value) = Slc.v x126 ∧ G80 x126 vw125) ∧
          (∀ (vw127 : World), vS35 vw127 → B63 vw127 → ∀ (x128 : Slc), G80 x128 vw127 → C64 x128 vw127 (fun r129 vw130 =>
              vS35 vw130 ∧ B63 vw130 ∧ le62 vw127 vw130 ∧ ∃ x131 : Int, (.int .i64 r129 : Value) = .int .i64 x131 ∧ G84 x131 vw130) (S18P vw4 vw5 R)) ∧
          (∀ (vw132 : World), vS35 vw132 → B63 vw132 → Nw vw132 (.cells #[.int .i64 x48, .int .i64 x49, .int .i64 x50, .int .i64 x51] 2) fun vw133 =>
            vS35 vw133 ∧ B63 vw133 ∧ le62 vw132 vw133 ∧ ∃ x134 : Slc, (Slc.v ((⟨some ⟨vw132.heap.size, 0, none⟩, 4, 4⟩ : Slc)) : Value) = Slc.v x134 ∧ G88 x134 vw133) ∧
          (∀ (vw135 : World), vS35 vw135 → B63 vw135 → ∀ (x136 : Slc), G88 x136 vw135 → C64 x136 vw135 (fun r137 vw138 =>
              vS35 vw138 ∧ B63 vw138 ∧ le62 vw135 vw138 ∧ ∃ x139 : Int, (.int .i64 r137 : Value) = .int .i64 x139 ∧ G92 x139 vw138) (S18P vw4 vw5 R)) ∧
          (∀ (vw140 : World), vS35 vw140 → B63 vw140 → Nw vw140 (.cells #[.int .i64 x52, .int .i64 x53, .int .i64 x54, .int .i64 x55, .int .i64 x56, .int .i64 10000] 2) fun vw141 =>
            vS35 vw141 ∧ B63 vw141 ∧ le62 vw140 vw141 ∧ ∃ x142 : Slc, (Slc.v ((⟨some ⟨vw140.heap.size, 0, none⟩, 6, 6⟩ : Slc)) : Value) = Slc.v x142 ∧ G96 x142 vw141) ∧
          (∀ (vw143 : World), vS35 vw143 → B63 vw143 → ∀ (x144 : Slc), G96 x144 vw143 → C64 x144 vw143 (fun r145 vw146 =>
              vS35 vw146 ∧ B63 vw146 ∧ le62 vw143 vw146 ∧ ∃ x147 : Int, (.int .i64 r145 : Value) = .int .i64 x147 ∧ G100 x147 vw146) (S18P vw4 vw5 R)) ∧
          (∀ (vw148 : World), vS35 vw148 → B63 vw148 → Nw vw148 (.cells #[.int .i64 x57, .int .i64 x58, .int .i64 x59, .int .i64 x60, .int .i64 x61, .int .i64 10000] 2) fun vw149 =>
            vS35 vw149 ∧ B63 vw149 ∧ le62 vw148 vw149 ∧ ∃ x150 : Slc, (Slc.v ((⟨some ⟨vw148.heap.size, 0, none⟩, 6, 6⟩ : Slc)) : Value) = Slc.v x150 ∧ G104 x150 vw149) ∧
          True) ∧
          (∀ (vw151 : World), vS35 vw151 → B63 vw151 → ∀ (x152 : Slc), G64 x152 vw151 → ∀ (x153 : Int), G68 x153 vw151 → ∀ (x154 : Slc), G72 x154 vw151 → ∀ (x155 : Int), G76 x155 vw151 → ∀ (x156 : Slc), G80 x156 vw151 → ∀ (x157 : Int), G84 x157 vw151 → ∀ (x158 : Slc), G88 x158 vw151 → ∀ (x159 : Int), G92 x159 vw151 → ∀ (x160 : Slc), G96 x160 vw151 → ∀ (x161 : Int), G100 x161 vw151 → ∀ (x162 : Slc), G104 x162 vw151 → C64 x162 vw151 (fun r163 vw164 =>
              St vw164 (⟨vw4.heap.size, 0, none⟩ : Addr) (.int .i64 x153) fun vw165 =>
              St vw165 ((⟨vw4.heap.size, 0, none⟩ : Addr).add 1) (.int .i64 x155) fun vw166 =>
              St vw166 ((⟨vw4.heap.size, 0, none⟩ : Addr).add 2) (.int .i64 x157) fun vw167 =>
              St vw167 ((⟨vw4.heap.size, 0, none⟩ : Addr).add 3) (.int .i64 x159) fun vw168 =>
              St vw168 ((⟨vw4.heap.size, 0, none⟩ : Addr).add 4) (.int .i64 x161) fun vw169 =>
              St vw169 ((⟨vw4.heap.size, 0, none⟩ : Addr).add 5) (.int .i64 r163) fun vw170 =>
              St vw170 (⟨vw5.heap.size, 0, none⟩ : Addr) (.int .i64 0) fun vw171 =>
              CD61 (⟨vw5.heap.size, 0, none⟩ : Addr) (⟨vw4.heap.size, 0, none⟩ : Addr) none vw171 fun vw172 =>
                Ld vw172 (⟨vw4.heap.size, 0, none⟩ : Addr) (Value.int .i64) fun (x173 : Int) =>
                Ld vw172 ((⟨vw4.heap.size, 0, none⟩ : Addr).add 1) (Value.int .i64) fun (x174 : Int) =>
                Ld vw172 ((⟨vw4.heap.size, 0, none⟩ : Addr).add 2) (Value.int .i64) fun (x175 : Int) =>
                Ld vw172 ((⟨vw4.heap.size, 0, none⟩ : Addr).add 3) (Value.int .i64) fun (x176 : Int) =>
                Ld vw172 ((⟨vw4.heap.size, 0, none⟩ : Addr).add 4) (Value.int .i64) fun (x177 : Int) =>
                Ld vw172 ((⟨vw4.heap.size, 0, none⟩ : Addr).add 5) (Value.int .i64) fun (x178 : Int) =>
                Ld vw172 (⟨vw5.heap.size, 0, none⟩ : Addr) (Value.int .i64) fun (x179 : Int) =>
                R (x173, x174, x175, x176, x177, x178) x179 vw172) (S18P vw4 vw5 R))) (S18P vw4 vw5 R)) (S18P vw4 vw5 R)
def pl18 : DPlan := (.pre (.reg .seq) (.here [4, 5] (.seq (.reg .seq) (.seq (.reg .seq) (.seq (.reg (.held [63] (.take 0 (.take 1 (.take 2 (.take 3 (.take 4 (.take 5 (.take 6 (.take 7 (.take 10 (.take 11 (.take 12 (.take 13 (.take 14 (.take 15 (.take 16 (.take 17 (.take 20 (.take 21 (.take 22 (.take 23 (.take 24 (.take 25 (.take 26 (.take 27 (.take 30 (.take 31 (.take 32 (.take 33 (.take 34 (.take 35 (.take 36 (.take 37 (.take 40 (.take 41 (.take 42 (.take 43 (.take 44 (.take 45 (.take 46 (.take 47 (.take 48 (.take 49 (.take 52 (.take 53 (.take 54 (.take 55 (.take 56 (.take 57 (.take 58 (.take 59 (.take 60 (.take 61 (.mono [8, 9, 18, 19, 28, 29, 38, 39, 50, 51, 62] (.eff 63 (some [64]) (.eff 64 (some [65]) (.eff 65 (some [66]) (.eff 66 (some []) .done))))))))))))))))))))))))))))))))))))))))))))))))))))))))))) .leaf)))))
set_option maxRecDepth 100000 in
theorem T18 (a1 : Int × Int × Int × Int × Int × Int) (b2 : Int × Int × Int × Int × Int × Int) (w : World) (R : (Int × Int × Int × Int × Int × Int) → Int → World → Prop) (h : S18 a1 b2 w R) : C18 (a1.1, a1.2.1, a1.2.2.1, a1.2.2.2.1, a1.2.2.2.2.1, a1.2.2.2.2.2) (b2.1, b2.2.1, b2.2.2.1, b2.2.2.2.1, b2.2.2.2.2.1, b2.2.2.2.2.2) w R := by
  have e : fnTD Tryd.prog FF MAY (fun _ _ => False) pl18 Tryd.f18 [.agg #[.int .i64 (a1.1), .int .i64 (a1.2.1), .int .i64 (a1.2.2.1), .int .i64 (a1.2.2.2.1), .int .i64 (a1.2.2.2.2.1), .int .i64 (a1.2.2.2.2.2)], .agg #[.int .i64 (b2.1), .int .i64 (b2.2.1), .int .i64 (b2.2.2.1), .int .i64 (b2.2.2.2.1), .int .i64 (b2.2.2.2.2.1), .int .i64 (b2.2.2.2.2.2)]] w [(.agg [(.int .i64), (.int .i64), (.int .i64), (.int .i64), (.int .i64), (.int .i64)]), (.one (.int .i64))] (fun s w => R s.1 s.2 w) = S18 a1 b2 w R := by kernel_rfl
  exact (fnD_calls okF okM Tryd.func18 (by kernel_rfl) (by kernel_rfl) (e.mpr h)).mono fun _ _ ⟨s, he, hR⟩ => ⟨s.1, s.2, he, hR⟩

/-- foliant/matrix.Apply$1 -/
def S65_nil (c1 : Addr) (c2 : Addr) (w : World) (R : World → Prop) : Prop :=
  C62 Value.nilIface (some c1) w (fun vw3 =>
    Ld vw3 c1 (Value.int .i64) fun (x4 : Int) =>
    Br (x4 != 0) (St vw3 c2 (.int .i64 0) fun vw5 =>
      St vw5 (c2.add 1) (.int .i64 0) fun vw6 =>
      R vw6) (R vw3)) (fun _ _ => False)
def pl65_nil : Plan := (.seq (.reg .seq) (.cond (.reg .seq) .leaf))
set_option maxRecDepth 100000 in
theorem T65_nil (c1 : Addr) (c2 : Addr) (w : World) (R : World → Prop) (h : S65_nil c1 c2 w R) : CD65 c1 c2 none w R := by
  have e : fnTS Tryd.prog FF MAY pl65_nil Tryd.f65 [.pointer (some c1), .pointer (some c2)] none w R = S65_nil c1 c2 w R := by kernel_rfl
  exact fnS_calls okF okM Tryd.func65 (by kernel_rfl) (by kernel_rfl) (e.mpr h)

/-- foliant/matrix.Apply$1 -/
def S65_T197 (c1 : Addr) (c2 : Addr) (u3 : Int) (w : World) (R : World → Prop) : Prop :=
  C62 (.iface 197 (.agg #[.int .i64 u3])) (some c1) w (fun vw4 =>
    Ld vw4 c1 (Value.int .i64) fun (x5 : Int) =>
    Br (x5 != 0) (St vw4 c2 (.int .i64 0) fun vw6 =>
      St vw6 (c2.add 1) (.int .i64 0) fun vw7 =>
      R vw7) (R vw4)) (fun _ _ => False)
def pl65_T197 : Plan := (.seq (.reg .seq) (.cond (.reg .seq) .leaf))
set_option maxRecDepth 100000 in
theorem T65_T197 (c1 : Addr) (c2 : Addr) (u3 : Int) (w : World) (R : World → Prop) (h : S65_T197 c1 c2 u3 w R) : CD65 c1 c2 (some (.iface 197 (.agg #[.int .i64 u3]))) w R := by
  have e : fnTS Tryd.prog FF MAY pl65_T197 Tryd.f65 [.pointer (some c1), .pointer (some c2)] (some (.iface 197 (.agg #[.int .i64 u3]))) w R = S65_T197 c1 c2 u3 w R := by kernel_rfl
  exact fnS_calls okF okM Tryd.func65 (by kernel_rfl) (by kernel_rfl) (e.mpr h)

def S19P (vw4 : World) (vw5 : World) (R : (Int × Int) → Int → World → Prop) (x8 : Value) (vw7 : World) : Prop :=
  CD65 (⟨vw5.heap.size, 0, none⟩ : Addr) (⟨vw4.heap.size, 0, none⟩ : Addr) (some x8) vw7 fun vw9 =>
    Ld vw9 (⟨vw4.heap.size, 0, none⟩ : Addr) (Value.int .i64) fun (x10 : Int) =>
    Ld vw9 ((⟨vw4.heap.size, 0, none⟩ : Addr).add 1) (Value.int .i64) fun (x11 : Int) =>
    Ld vw9 (⟨vw5.heap.size, 0, none⟩ : Addr) (Value.int .i64) fun (x12 : Int) =>
    R (x10, x11) x12 vw9
def S19J1 (w : World) (vw3 : World) (vw4 : World) (vw5 : World) (R : (Int × Int) → Int → World → Prop) (s30 : Unit) (vw31 : World) : Prop :=
  ∃ vS32 : World → Prop, vS32 vw31.drew ∧ LdS vS32 (⟨vw3.heap.size, 0, none⟩ : Addr) (Value.int .i64) fun (x33 : Int) =>
  LdS vS32 (⟨w.heap.size, 0, none⟩ : Addr) (Value.int .i64) fun (x34 : Int) =>
  LdS vS32 ((⟨vw3.heap.size, 0, none⟩ : Addr).add 1) (Value.int .i64) fun (x35 : Int) =>
  LdS vS32 ((⟨w.heap.size, 0, none⟩ : Addr).add 2) (Value.int .i64) fun (x36 : Int) =>
  LdS vS32 ((⟨w.heap.size, 0, none⟩ : Addr).add 4) (Value.int .i64) fun (x37 : Int) =>
  LdS vS32 (⟨vw3.heap.size, 0, none⟩ : Addr) (Value.int .i64) fun (x38 : Int) =>
  LdS vS32 ((⟨w.heap.size, 0, none⟩ : Addr).add 1) (Value.int .i64) fun (x39 : Int) =>
  LdS vS32 ((⟨vw3.heap.size, 0, none⟩ : Addr).add 1) (Value.int .i64) fun (x40 : Int) =>
  LdS vS32 ((⟨w.heap.size, 0, none⟩ : Addr).add 3) (Value.int .i64) fun (x41 : Int) =>
  LdS vS32 ((⟨w.heap.size, 0, none⟩ : Addr).add 5) (Value.int .i64) fun (x42 : Int) =>
  (Nw vw31.drew (.cells #[.int .i64 x33, .int .i64 x34, .int .i64 x35, .int .i64 x36, .int .i64 x37, .int .i64 10000] 2) fun vw43 =>
    vS32 vw43 ∧ (C64 (⟨some ⟨vw31.drew.heap.size, 0, none⟩, 6, 6⟩ : Slc) vw43 (fun r44 vw45 =>
        vS32 vw45 ∧ Nw vw45 (.cells #[.int .i64 x38, .int .i64 x39, .int .i64 x40, .int .i64 x41, .int .i64 x42, .int .i64 10000] 2) fun vw46 =>
        vS32 vw46 ∧ C64 (⟨some ⟨vw45.heap.size, 0, none⟩, 6, 6⟩ : Slc) vw46 (fun r47 vw48 =>
          St vw48 (⟨vw4.heap.size, 0, none⟩ : Addr) (.int .i64 r44) fun vw49 =>
          St vw49 ((⟨vw4.heap.size, 0, none⟩ : Addr).add 1) (.int .i64 r47) fun vw50 =>
          St vw50 (⟨vw5.heap.size, 0, none⟩ : Addr) (.int .i64 0) fun vw51 =>
          CD65 (⟨vw5.heap.size, 0, none⟩ : Addr) (⟨vw4.heap.size, 0, none⟩ : Addr) none vw51 fun vw52 =>
            Ld vw52 (⟨vw4.heap.size, 0, none⟩ : Addr) (Value.int .i64) fun (x53 : Int) =>
            Ld vw52 ((⟨vw4.heap.size, 0, none⟩ : Addr).add 1) (Value.int .i64) fun (x54 : Int) =>
            Ld vw52 (⟨vw5.heap.size, 0, none⟩ : Addr) (Value.int .i64) fun (x55 : Int) =>
            R (x53, x54) x55 vw52) (S19P vw4 vw5 R)) (S19P vw4 vw5 R)) ∧
    (Nw vw43 (.cells #[.int .i64 x38, .int .i64 x39, .int .i64 x40, .int .i64 x41, .int .i64 x42, .int .i64 10000] 2) fun vw56 =>
      vS32 vw56 ∧ C64 (⟨some ⟨vw31.drew.heap.size, 0, none⟩, 6, 6⟩ : Slc) vw56 (fun r57 vw58 =>
        vS32 vw58 ∧ C64 (⟨some ⟨vw43.heap.size, 0, none⟩, 6, 6⟩ : Slc) vw58 (fun r59 vw60 =>
          St vw60 (⟨vw4.heap.size, 0, none⟩ : Addr) (.int .i64 r57) fun vw61 =>
          St vw61 ((⟨vw4.heap.size, 0, none⟩ : Addr).add 1) (.int .i64 r59) fun vw62 =>
          St vw62 (⟨vw5.heap.size, 0, none⟩ : Addr) (.int .i64 0) fun vw63 =>
          CD65 (⟨vw5.heap.size, 0, none⟩ : Addr) (⟨vw4.heap.size, 0, none⟩ : Addr) none vw63 fun vw64 =>
            Ld vw64 (⟨vw4.heap.size, 0, none⟩ : Addr) (Value.int .i64) fun (x65 : Int) =>
            Ld vw64 ((⟨vw4.heap.size, 0, none⟩ : Addr).add 1) (Value.int .i64) fun (x66 : Int) =>
            Ld vw64 (⟨vw5.heap.size, 0, none⟩ : Addr) (Value.int .i64) fun (x67 : Int) =>
            R (x65, x66) x67 vw64) (S19P vw4 vw5 R)) (S19P vw4 vw5 R))) ∧
  (Nw vw31.drew (.cells #[.int .i64 x38, .int .i64 x39, .int .i64 x40, .int .i64 x41, .int .i64 x42, .int .i64 10000] 2) fun vw68 =>
    vS32 vw68 ∧ Nw vw68 (.cells #[.int .i64 x33, .int .i64 x34, .int .i64 x35, .int .i64 x36, .int .i64 x37, .int .i64 10000] 2) fun vw69 =>
    vS32 vw69 ∧ C64 (⟨some ⟨vw68.heap.size, 0, none⟩, 6, 6⟩ : Slc) vw69 (fun r70 vw71 =>
      vS32 vw71 ∧ C64 (⟨some ⟨vw31.drew.heap.size, 0, none⟩, 6, 6⟩ : Slc) vw71 (fun r72 vw73 =>
        St vw73 (⟨vw4.heap.size, 0, none⟩ : Addr) (.int .i64 r70) fun vw74 =>
        St vw74 ((⟨vw4.heap.size, 0, none⟩ : Addr).add 1) (.int .i64 r72) fun vw75 =>
        St vw75 (⟨vw5.heap.size, 0, none⟩ : Addr) (.int .i64 0) fun vw76 =>
        CD65 (⟨vw5.heap.size, 0, none⟩ : Addr) (⟨vw4.heap.size, 0, none⟩ : Addr) none vw76 fun vw77 =>
          Ld vw77 (⟨vw4.heap.size, 0, none⟩ : Addr) (Value.int .i64) fun (x78 : Int) =>
          Ld vw77 ((⟨vw4.heap.size, 0, none⟩ : Addr).add 1) (Value.int .i64) fun (x79 : Int) =>
          Ld vw77 (⟨vw5.heap.size, 0, none⟩ : Addr) (Value.int .i64) fun (x80 : Int) =>
          R (x78, x79) x80 vw77) (S19P vw4 vw5 R)) (S19P vw4 vw5 R))
/-- foliant/matrix.Apply -/
def S19 (m1 : Int × Int × Int × Int × Int × Int) (p2 : Int × Int) (w : World) (R : (Int × Int) → Int → World → Prop) : Prop :=
  Nw w (.cells #[.int .i64 (m1.1), .int .i64 (m1.2.1), .int .i64 (m1.2.2.1), .int .i64 (m1.2.2.2.1), .int .i64 (m1.2.2.2.2.1), .int .i64 (m1.2.2.2.2.2)] 23) fun vw3 =>
  Nw vw3 (.cells #[.int .i64 (p2.1), .int .i64 (p2.2)] 43) fun vw4 =>
  Nw vw4 (.cells #[.int .i64 0, .int .i64 0] 43) fun vw5 =>
  Nw vw5 (.cells #[.int .i64 0] 38) fun vw6 =>
  Ld vw6 (⟨w.heap.size, 0, none⟩ : Addr) (Value.int .i64) fun (x13 : Int) =>
  Ld vw6 ((⟨w.heap.size, 0, none⟩ : Addr).add 1) (Value.int .i64) fun (x14 : Int) =>
  Ld vw6 ((⟨w.heap.size, 0, none⟩ : Addr).add 2) (Value.int .i64) fun (x15 : Int) =>
  Ld vw6 ((⟨w.heap.size, 0, none⟩ : Addr).add 3) (Value.int .i64) fun (x16 : Int) =>
  Ld vw6 ((⟨w.heap.size, 0, none⟩ : Addr).add 4) (Value.int .i64) fun (x17 : Int) =>
  Ld vw6 ((⟨w.heap.size, 0, none⟩ : Addr).add 5) (Value.int .i64) fun (x18 : Int) =>
  C26 (x13, x14, x15, x16, x17, x18) vw6 fun r19 vw20 =>
    C63 r19 vw20 (fun vw21 =>
      Join (S19J1 w vw3 vw4 vw5 R) fun (vJ81 : Unit → World → Prop) =>
        Ld vw21 (⟨vw3.heap.size, 0, none⟩ : Addr) (Value.int .i64) fun (x82 : Int) =>
        C66 x82 vw21 fun r83 vw84 =>
          Br r83 (C63 2 vw84 (fun vw85 =>
              vJ81 () vw85) (S19P vw4 vw5 R)) (Ld vw84 ((⟨vw3.heap.size, 0, none⟩ : Addr).add 1) (Value.int .i64) fun (x86 : Int) =>
            C66 x86 vw84 fun r87 vw88 =>
              Br r87 (C63 2 vw88 (fun vw89 =>
                  vJ81 () vw89) (S19P vw4 vw5 R)) (vJ81 () vw88))) (S19P vw4 vw5 R)
def pl19 : DPlan := (.pre (.reg .seq) (.here [4, 5] (.seq (.reg .seq) (.join [] [2, 3, 4, 5] (.seq (.reg .seq) (.cond (.reg .seq) .leaf)) (.seq (.reg (.held [23] (.take 0 (.take 1 (.take 2 (.take 3 (.take 4 (.take 5 (.take 6 (.take 7 (.take 8 (.take 9 (.take 12 (.take 13 (.take 14 (.take 15 (.take 16 (.take 17 (.take 18 (.take 19 (.take 20 (.take 21 (.effs 10 none (.effs 11 none (.eff 22 none (.eff 23 (some [24]) (.eff 24 (some [25]) (.eff 25 (some [26]) (.eff 26 (some []) .done))))) (.eff 22 none (.eff 11 none (.eff 23 (some [24]) (.eff 24 (some [25]) (.eff 25 (some [26]) (.eff 26 (some []) .done))))))) (.eff 22 none (.eff 10 none (.eff 11 none (.eff 23 (some [24]) (.eff 24 (some [25]) (.eff 25 (some [26]) (.eff 26 (some []) .done)))))))))))))))))))))))))))))) .leaf)))))
set_option maxRecDepth 100000 in
theorem T19 (m1 : Int × Int × Int × Int × Int × Int) (p2 : Int × Int) (w : World) (R : (Int × Int) → Int → World → Prop) (h : S19 m1 p2 w R) : C19 (m1.1, m1.2.1, m1.2.2.1, m1.2.2.2.1, m1.2.2.2.2.1, m1.2.2.2.2.2) (p2.1, p2.2) w R := by
  have e : fnTD Tryd.prog FF MAY (fun _ _ => False) pl19 Tryd.f19 [.agg #[.int .i64 (m1.1), .int .i64 (m1.2.1), .int .i64 (m1.2.2.1), .int .i64 (m1.2.2.2.1), .int .i64 (m1.2.2.2.2.1), .int .i64 (m1.2.2.2.2.2)], .agg #[.int .i64 (p2.1), .int .i64 (p2.2)]] w [(.agg [(.int .i64), (.int .i64)]), (.one (.int .i64))] (fun s w => R s.1 s.2 w) = S19 m1 p2 w R := by kernel_rfl
  exact (fnD_calls okF okM Tryd.func19 (by kernel_rfl) (by kernel_rfl) (e.mpr h)).mono fun _ _ ⟨s, he, hR⟩ => ⟨s.1, s.2, he, hR⟩

/-- foliant/matrix.One -/
def S14 (w : World) (R : (Int × Int × Int × Int × Int × Int) → World → Prop) : Prop :=
  Nw w (.cells #[.int .i64 0, .int .i64 0, .int .i64 0, .int .i64 0, .int .i64 0, .int .i64 0] 23) fun vw1 =>
  St vw1 (⟨w.heap.size, 0, none⟩ : Addr) (.int .i64 10000) fun vw2 =>
  St vw2 ((⟨w.heap.size, 0, none⟩ : Addr).add 1) (.int .i64 0) fun vw3 =>
  St vw3 ((⟨w.heap.size, 0, none⟩ : Addr).add 2) (.int .i64 0) fun vw4 =>
  St vw4 ((⟨w.heap.size, 0, none⟩ : Addr).add 3) (.int .i64 10000) fun vw5 =>
  St vw5 ((⟨w.heap.size, 0, none⟩ : Addr).add 4) (.int .i64 0) fun vw6 =>
  St vw6 ((⟨w.heap.size, 0, none⟩ : Addr).add 5) (.int .i64 0) fun vw7 =>
  Ld vw7 (⟨w.heap.size, 0, none⟩ : Addr) (Value.int .i64) fun (x8 : Int) =>
  Ld vw7 ((⟨w.heap.size, 0, none⟩ : Addr).add 1) (Value.int .i64) fun (x9 : Int) =>
  Ld vw7 ((⟨w.heap.size, 0, none⟩ : Addr).add 2) (Value.int .i64) fun (x10 : Int) =>
  Ld vw7 ((⟨w.heap.size, 0, none⟩ : Addr).add 3) (Value.int .i64) fun (x11 : Int) =>
  Ld vw7 ((⟨w.heap.size, 0, none⟩ : Addr).add 4) (Value.int .i64) fun (x12 : Int) =>
  Ld vw7 ((⟨w.heap.size, 0, none⟩ : Addr).add 5) (Value.int .i64) fun (x13 : Int) =>
  R (x8, x9, x10, x11, x12, x13) vw7
def pl14 : Plan := (.seq (.reg .seq) (.seq (.reg .seq) .leaf))
set_option maxRecDepth 100000 in
theorem T14 (w : World) (R : (Int × Int × Int × Int × Int × Int) → World → Prop) (h : S14 w R) : C14 w R := by
  have e : fnT Tryd.prog ⟨FF, MAY, (fun _ _ => False)⟩ pl14 Tryd.f14 [] w [(.agg [(.int .i64), (.int .i64), (.int .i64), (.int .i64), (.int .i64), (.int .i64)])] (fun s w => R s w) = S14 w R := by kernel_rfl
  exact (fn_calls okF okM Tryd.func14 (by kernel_rfl) (by kernel_rfl) (e.mpr h)).mono fun _ _ ⟨s, he, hR⟩ => ⟨s, he, hR⟩

def S106L1 (l1 : Slc) (R : Bool → World → Prop) (I4 : Int → World → Prop) (s2 : Int) (vw3 : World) : Prop :=
  Br (decide (s2 < ((l1.len : Nat) : Int))) (0 ≤ s2 ∧ s2 < (l1.len : Nat) ∧ Nn l1.p fun a5 =>
    Ld vw3 (a5.add ((s2).toNat * 1)) (Value.int .i64) fun (x6 : Int) =>
    Br (decide (x6 < (-1073741824))) (R false vw3) (Br (decide (x6 > 1073741824)) (R false vw3) (I4 (IntKind.i64.wrap (s2 + 1)) vw3))) (R true vw3)
/-- foliant/foliantref42.within -/
def S106 (l1 : Slc) (w : World) (R : Bool → World → Prop) : Prop :=
  Lp (σ := Int) (S106L1 l1 R) 0 w
def pl106 : Plan := (.seq (.reg .seq) (.seq (.seq (.reg .seq) (.block (.loop [(7, (.one (.int .i64)))] [5, 6] (.seq (.reg .seq) (.seq (.cond .leaf .leaf) (.seq (.block (.seq (.reg .seq) (.seq (.reg .seq) (.cond (.seq (.reg .seq) .leaf) .leaf)))) (.reg .seq))))))) (.seq (.reg .seq) .leaf)))
set_option maxRecDepth 100000 in
theorem T106 (l1 : Slc) (w : World) (R : Bool → World → Prop) (h : S106 l1 w R) : C106 l1 w R := by
  have e : fnT Tryd.prog ⟨FF, MAY, (fun _ _ => False)⟩ pl106 Tryd.f106 [Slc.v l1] w [(.one .bool)] (fun s w => R s w) = S106 l1 w R := by kernel_rfl
  exact (fn_calls okF okM Tryd.func106 (by kernel_rfl) (by kernel_rfl) (e.mpr h)).mono fun _ _ ⟨s, he, hR⟩ => ⟨s, he, hR⟩

/-- foliant/foliantref42.Check -/
def S49 (m1 : Int × Int × Int × Int × Int × Int) (w : World) (R : Int → World → Prop) : Prop :=
  Nw w (.cells #[.int .i64 (m1.1), .int .i64 (m1.2.1), .int .i64 (m1.2.2.1), .int .i64 (m1.2.2.2.1), .int .i64 (m1.2.2.2.2.1), .int .i64 (m1.2.2.2.2.2)] 23) fun vw2 =>
  Ld vw2 (⟨w.heap.size, 0, none⟩ : Addr) (Value.int .i64) fun (x3 : Int) =>
  Ld vw2 ((⟨w.heap.size, 0, none⟩ : Addr).add 1) (Value.int .i64) fun (x4 : Int) =>
  Ld vw2 ((⟨w.heap.size, 0, none⟩ : Addr).add 2) (Value.int .i64) fun (x5 : Int) =>
  Ld vw2 ((⟨w.heap.size, 0, none⟩ : Addr).add 3) (Value.int .i64) fun (x6 : Int) =>
  Ld vw2 ((⟨w.heap.size, 0, none⟩ : Addr).add 4) (Value.int .i64) fun (x7 : Int) =>
  Ld vw2 ((⟨w.heap.size, 0, none⟩ : Addr).add 5) (Value.int .i64) fun (x8 : Int) =>
  Nw vw2 (.cells #[.int .i64 x3, .int .i64 x4, .int .i64 x5, .int .i64 x6, .int .i64 x7, .int .i64 x8] 2) fun vw9 =>
  C106 (⟨some ⟨vw2.heap.size, 0, none⟩, 6, 6⟩ : Slc) vw9 fun r10 vw11 =>
    Br (!r10) (R 2 vw11) (R 0 vw11)
def pl49 : Plan := (.seq (.reg .seq) (.seq (.seq (.reg .seq) (.cond (.seq (.reg .seq) .leaf) .leaf)) (.seq (.reg .seq) .leaf)))
set_option maxRecDepth 100000 in
theorem T49 (m1 : Int × Int × Int × Int × Int × Int) (w : World) (R : Int → World → Prop) (h : S49 m1 w R) : C49 (m1.1, m1.2.1, m1.2.2.1, m1.2.2.2.1, m1.2.2.2.2.1, m1.2.2.2.2.2) w R := by
  have e : fnT Tryd.prog ⟨FF, MAY, (fun _ _ => False)⟩ pl49 Tryd.f49 [.agg #[.int .i64 (m1.1), .int .i64 (m1.2.1), .int .i64 (m1.2.2.1), .int .i64 (m1.2.2.2.1), .int .i64 (m1.2.2.2.2.1), .int .i64 (m1.2.2.2.2.2)]] w [(.one (.int .i64))] (fun s w => R s w) = S49 m1 w R := by kernel_rfl
  exact (fn_calls okF okM Tryd.func49 (by kernel_rfl) (by kernel_rfl) (e.mpr h)).mono fun _ _ ⟨s, he, hR⟩ => ⟨s, he, hR⟩

/-- foliant/foliantref42.Mul -/
def S172 (a1 : Int × Int × Int × Int × Int × Int) (b2 : Int × Int × Int × Int × Int × Int) (w : World) (R : (Int × Int × Int × Int × Int × Int) → Int → World → Prop) : Prop :=
  Nw w (.cells #[.int .i64 (a1.1), .int .i64 (a1.2.1), .int .i64 (a1.2.2.1), .int .i64 (a1.2.2.2.1), .int .i64 (a1.2.2.2.2.1), .int .i64 (a1.2.2.2.2.2)] 23) fun vw3 =>
  Nw vw3 (.cells #[.int .i64 (b2.1), .int .i64 (b2.2.1), .int .i64 (b2.2.2.1), .int .i64 (b2.2.2.2.1), .int .i64 (b2.2.2.2.2.1), .int .i64 (b2.2.2.2.2.2)] 23) fun vw4 =>
  Nw vw4 (.cells #[.int .i64 0, .int .i64 0, .int .i64 0, .int .i64 0, .int .i64 0, .int .i64 0] 23) fun vw5 =>
  Ld vw5 (⟨w.heap.size, 0, none⟩ : Addr) (Value.int .i64) fun (x34 : Int) =>
  Ld vw5 ((⟨w.heap.size, 0, none⟩ : Addr).add 1) (Value.int .i64) fun (x35 : Int) =>
  Ld vw5 ((⟨w.heap.size, 0, none⟩ : Addr).add 2) (Value.int .i64) fun (x36 : Int) =>
  Ld vw5 ((⟨w.heap.size, 0, none⟩ : Addr).add 3) (Value.int .i64) fun (x37 : Int) =>
  Ld vw5 ((⟨w.heap.size, 0, none⟩ : Addr).add 4) (Value.int .i64) fun (x38 : Int) =>
  Ld vw5 ((⟨w.heap.size, 0, none⟩ : Addr).add 5) (Value.int .i64) fun (x39 : Int) =>
  C49 (x34, x35, x36, x37, x38, x39) vw5 fun r40 vw41 =>
    Br (r40 != 0) (St vw41 (⟨vw4.heap.size, 0, none⟩ : Addr) (.int .i64 0) fun vw42 =>
      St vw42 ((⟨vw4.heap.size, 0, none⟩ : Addr).add 1) (.int .i64 0) fun vw43 =>
      St vw43 ((⟨vw4.heap.size, 0, none⟩ : Addr).add 2) (.int .i64 0) fun vw44 =>
      St vw44 ((⟨vw4.heap.size, 0, none⟩ : Addr).add 3) (.int .i64 0) fun vw45 =>
      St vw45 ((⟨vw4.heap.size, 0, none⟩ : Addr).add 4) (.int .i64 0) fun vw46 =>
      St vw46 ((⟨vw4.heap.size, 0, none⟩ : Addr).add 5) (.int .i64 0) fun vw47 =>
      Ld vw47 (⟨vw4.heap.size, 0, none⟩ : Addr) (Value.int .i64) fun (x48 : Int) =>
      Ld vw47 ((⟨vw4.heap.size, 0, none⟩ : Addr).add 1) (Value.int .i64) fun (x49 : Int) =>
      Ld vw47 ((⟨vw4.heap.size, 0, none⟩ : Addr).add 2) (Value.int .i64) fun (x50 : Int) =>
      Ld vw47 ((⟨vw4.heap.size, 0, none⟩ : Addr).add 3) (Value.int .i64) fun (x51 : Int) =>
      Ld vw47 ((⟨vw4.heap.size, 0, none⟩ : Addr).add 4) (Value.int .i64) fun (x52 : Int) =>
      Ld vw47 ((⟨vw4.heap.size, 0, none⟩ : Addr).add 5) (Value.int .i64) fun (x53 : Int) =>
      R (x48, x49, x50, x51, x52, x53) 2 vw47) (Ld vw41 (⟨vw3.heap.size, 0, none⟩ : Addr) (Value.int .i64) fun (x54 : Int) =>
      Ld vw41 ((⟨vw3.heap.size, 0, none⟩ : Addr).add 1) (Value.int .i64) fun (x55 : Int) =>
      Ld vw41 ((⟨vw3.heap.size, 0, none⟩ : Addr).add 2) (Value.int .i64) fun (x56 : Int) =>
      Ld vw41 ((⟨vw3.heap.size, 0, none⟩ : Addr).add 3) (Value.int .i64) fun (x57 : Int) =>
      Ld vw41 ((⟨vw3.heap.size, 0, none⟩ : Addr).add 4) (Value.int .i64) fun (x58 : Int) =>
      Ld vw41 ((⟨vw3.heap.size, 0, none⟩ : Addr).add 5) (Value.int .i64) fun (x59 : Int) =>
      C49 (x54, x55, x56, x57, x58, x59) vw41 fun r60 vw61 =>
        Br (r60 != 0) (St vw61 (⟨vw4.heap.size, 0, none⟩ : Addr) (.int .i64 0) fun vw62 =>
          St vw62 ((⟨vw4.heap.size, 0, none⟩ : Addr).add 1) (.int .i64 0) fun vw63 =>
          St vw63 ((⟨vw4.heap.size, 0, none⟩ : Addr).add 2) (.int .i64 0) fun vw64 =>
          St vw64 ((⟨vw4.heap.size, 0, none⟩ : Addr).add 3) (.int .i64 0) fun vw65 =>
          St vw65 ((⟨vw4.heap.size, 0, none⟩ : Addr).add 4) (.int .i64 0) fun vw66 =>
          St vw66 ((⟨vw4.heap.size, 0, none⟩ : Addr).add 5) (.int .i64 0) fun vw67 =>
          Ld vw67 (⟨vw4.heap.size, 0, none⟩ : Addr) (Value.int .i64) fun (x68 : Int) =>
          Ld vw67 ((⟨vw4.heap.size, 0, none⟩ : Addr).add 1) (Value.int .i64) fun (x69 : Int) =>
          Ld vw67 ((⟨vw4.heap.size, 0, none⟩ : Addr).add 2) (Value.int .i64) fun (x70 : Int) =>
          Ld vw67 ((⟨vw4.heap.size, 0, none⟩ : Addr).add 3) (Value.int .i64) fun (x71 : Int) =>
          Ld vw67 ((⟨vw4.heap.size, 0, none⟩ : Addr).add 4) (Value.int .i64) fun (x72 : Int) =>
          Ld vw67 ((⟨vw4.heap.size, 0, none⟩ : Addr).add 5) (Value.int .i64) fun (x73 : Int) =>
          R (x68, x69, x70, x71, x72, x73) 2 vw67) (Ld vw61 (⟨w.heap.size, 0, none⟩ : Addr) (Value.int .i64) fun (x74 : Int) =>
          Ld vw61 (⟨vw3.heap.size, 0, none⟩ : Addr) (Value.int .i64) fun (x75 : Int) =>
          Ld vw61 ((⟨w.heap.size, 0, none⟩ : Addr).add 1) (Value.int .i64) fun (x76 : Int) =>
          Ld vw61 ((⟨vw3.heap.size, 0, none⟩ : Addr).add 2) (Value.int .i64) fun (x77 : Int) =>
          Nw vw61 (.cells #[.int .i64 x74, .int .i64 x75, .int .i64 x76, .int .i64 x77] 2) fun vw78 =>
          C107 (⟨some ⟨vw61.heap.size, 0, none⟩, 4, 4⟩ : Slc) vw78 fun r79 r80 vw81 =>
            Ld vw81 (⟨w.heap.size, 0, none⟩ : Addr) (Value.int .i64) fun (x82 : Int) =>
            Ld vw81 ((⟨vw3.heap.size, 0, none⟩ : Addr).add 1) (Value.int .i64) fun (x83 : Int) =>
            Ld vw81 ((⟨w.heap.size, 0, none⟩ : Addr).add 1) (Value.int .i64) fun (x84 : Int) =>
            Ld vw81 ((⟨vw3.heap.size, 0, none⟩ : Addr).add 3) (Value.int .i64) fun (x85 : Int) =>
            Nw vw81 (.cells #[.int .i64 x82, .int .i64 x83, .int .i64 x84, .int .i64 x85] 2) fun vw86 =>
            C107 (⟨some ⟨vw81.heap.size, 0, none⟩, 4, 4⟩ : Slc) vw86 fun r87 r88 vw89 =>
              Ld vw89 ((⟨w.heap.size, 0, none⟩ : Addr).add 2) (Value.int .i64) fun (x90 : Int) =>
              Ld vw89 (⟨vw3.heap.size, 0, none⟩ : Addr) (Value.int .i64) fun (x91 : Int) =>
              Ld vw89 ((⟨w.heap.size, 0, none⟩ : Addr).add 3) (Value.int .i64) fun (x92 : Int) =>
              Ld vw89 ((⟨vw3.heap.size, 0, none⟩ : Addr).add 2) (Value.int .i64) fun (x93 : Int) =>
              Nw vw89 (.cells #[.int .i64 x90, .int .i64 x91, .int .i64 x92, .int .i64 x93] 2) fun vw94 =>
              C107 (⟨some ⟨vw89.heap.size, 0, none⟩, 4, 4⟩ : Slc) vw94 fun r95 r96 vw97 =>
                Ld vw97 ((⟨w.heap.size, 0, none⟩ : Addr).add 2) (Value.int .i64) fun (x98 : Int) =>
                Ld vw97 ((⟨vw3.heap.size, 0, none⟩ : Addr).add 1) (Value.int .i64) fun (x99 : Int) =>
                Ld vw97 ((⟨w.heap.size, 0, none⟩ : Addr).add 3) (Value.int .i64) fun (x100 : Int) =>
                Ld vw97 ((⟨vw3.heap.size, 0, none⟩ : Addr).add 3) (Value.int .i64) fun (x101 : Int) =>
                Nw vw97 (.cells #[.int .i64 x98, .int .i64 x99, .int .i64 x100, .int .i64 x101] 2) fun vw102 =>
                C107 (⟨some ⟨vw97.heap.size, 0, none⟩, 4, 4⟩ : Slc) vw102 fun r103 r104 vw105 =>
                  Ld vw105 ((⟨w.heap.size, 0, none⟩ : Addr).add 4) (Value.int .i64) fun (x106 : Int) =>
                  Ld vw105 (⟨vw3.heap.size, 0, none⟩ : Addr) (Value.int .i64) fun (x107 : Int) =>
                  Ld vw105 ((⟨w.heap.size, 0, none⟩ : Addr).add 5) (Value.int .i64) fun (x108 : Int) =>
                  Ld vw105 ((⟨vw3.heap.size, 0, none⟩ : Addr).add 2) (Value.int .i64) fun (x109 : Int) =>
                  Ld vw105 ((⟨vw3.heap.size, 0, none⟩ : Addr).add 4) (Value.int .i64) fun (x110 : Int) =>
                  Nw vw105 (.cells #[.int .i64 x106, .int .i64 x107, .int .i64 x108, .int .i64 x109, .int .i64 x110, .int .i64 10000] 2) fun vw111 =>
                  C107 (⟨some ⟨vw105.heap.size, 0, none⟩, 6, 6⟩ : Slc) vw111 fun r112 r113 vw114 =>
                    Ld vw114 ((⟨w.heap.size, 0, none⟩ : Addr).add 4) (Value.int .i64) fun (x115 : Int) =>
                    Ld vw114 ((⟨vw3.heap.size, 0, none⟩ : Addr).add 1) (Value.int .i64) fun (x116 : Int) =>
                    Ld vw114 ((⟨w.heap.size, 0, none⟩ : Addr).add 5) (Value.int .i64) fun (x117 : Int) =>
                    Ld vw114 ((⟨vw3.heap.size, 0, none⟩ : Addr).add 3) (Value.int .i64) fun (x118 : Int) =>
                    Ld vw114 ((⟨vw3.heap.size, 0, none⟩ : Addr).add 5) (Value.int .i64) fun (x119 : Int) =>
                    Nw vw114 (.cells #[.int .i64 x115, .int .i64 x116, .int .i64 x117, .int .i64 x118, .int .i64 x119, .int .i64 10000] 2) fun vw120 =>
                    C107 (⟨some ⟨vw114.heap.size, 0, none⟩, 6, 6⟩ : Slc) vw120 fun r121 r122 vw123 =>
                      Br (r80 != 0) (St vw123 (⟨vw4.heap.size, 0, none⟩ : Addr) (.int .i64 0) fun vw169 =>
                        St vw169 ((⟨vw4.heap.size, 0, none⟩ : Addr).add 1) (.int .i64 0) fun vw170 =>
                        St vw170 ((⟨vw4.heap.size, 0, none⟩ : Addr).add 2) (.int .i64 0) fun vw171 =>
                        St vw171 ((⟨vw4.heap.size, 0, none⟩ : Addr).add 3) (.int .i64 0) fun vw172 =>
                        St vw172 ((⟨vw4.heap.size, 0, none⟩ : Addr).add 4) (.int .i64 0) fun vw173 =>
                        St vw173 ((⟨vw4.heap.size, 0, none⟩ : Addr).add 5) (.int .i64 0) fun vw174 =>
                        Ld vw174 (⟨vw4.heap.size, 0, none⟩ : Addr) (Value.int .i64) fun (x175 : Int) =>
                        Ld vw174 ((⟨vw4.heap.size, 0, none⟩ : Addr).add 1) (Value.int .i64) fun (x176 : Int) =>
                        Ld vw174 ((⟨vw4.heap.size, 0, none⟩ : Addr).add 2) (Value.int .i64) fun (x177 : Int) =>
                        Ld vw174 ((⟨vw4.heap.size, 0, none⟩ : Addr).add 3) (Value.int .i64) fun (x178 : Int) =>
                        Ld vw174 ((⟨vw4.heap.size, 0, none⟩ : Addr).add 4) (Value.int .i64) fun (x179 : Int) =>
                        Ld vw174 ((⟨vw4.heap.size, 0, none⟩ : Addr).add 5) (Value.int .i64) fun (x180 : Int) =>
                        R (x175, x176, x177, x178, x179, x180) 2 vw174) (Br (r88 != 0) (St vw123 (⟨vw4.heap.size, 0, none⟩ : Addr) (.int .i64 0) fun vw181 =>
                          St vw181 ((⟨vw4.heap.size, 0, none⟩ : Addr).add 1) (.int .i64 0) fun vw182 =>
                          St vw182 ((⟨vw4.heap.size, 0, none⟩ : Addr).add 2) (.int .i64 0) fun vw183 =>
                          St vw183 ((⟨vw4.heap.size, 0, none⟩ : Addr).add 3) (.int .i64 0) fun vw184 =>
                          St vw184 ((⟨vw4.heap.size, 0, none⟩ : Addr).add 4) (.int .i64 0) fun vw185 =>
                          St vw185 ((⟨vw4.heap.size, 0, none⟩ : Addr).add 5) (.int .i64 0) fun vw186 =>
                          Ld vw186 (⟨vw4.heap.size, 0, none⟩ : Addr) (Value.int .i64) fun (x187 : Int) =>
                          Ld vw186 ((⟨vw4.heap.size, 0, none⟩ : Addr).add 1) (Value.int .i64) fun (x188 : Int) =>
                          Ld vw186 ((⟨vw4.heap.size, 0, none⟩ : Addr).add 2) (Value.int .i64) fun (x189 : Int) =>
                          Ld vw186 ((⟨vw4.heap.size, 0, none⟩ : Addr).add 3) (Value.int .i64) fun (x190 : Int) =>
                          Ld vw186 ((⟨vw4.heap.size, 0, none⟩ : Addr).add 4) (Value.int .i64) fun (x191 : Int) =>
                          Ld vw186 ((⟨vw4.heap.size, 0, none⟩ : Addr).add 5) (Value.int .i64) fun (x192 : Int) =>
                          R (x187, x188, x189, x190, x191, x192) 2 vw186) (Br (r96 != 0) (St vw123 (⟨vw4.heap.size, 0, none⟩ : Addr) (.int .i64 0) fun vw193 =>
                            St vw193 ((⟨vw4.heap.size, 0, none⟩ : Addr).add 1) (.int .i64 0) fun vw194 =>
                            St vw194 ((⟨vw4.heap.size, 0, none⟩ : Addr).add 2) (.int .i64 0) fun vw195 =>
                            St vw195 ((⟨vw4.heap.size, 0, none⟩ : Addr).add 3) (.int .i64 0) fun vw196 =>
                            St vw196 ((⟨vw4.heap.size, 0, none⟩ : Addr).add 4) (.int .i64 0) fun vw197 =>
                            St vw197 ((⟨vw4.heap.size, 0, none⟩ : Addr).add 5) (.int .i64 0) fun vw198 =>
                            Ld vw198 (⟨vw4.heap.size, 0, none⟩ : Addr) (Value.int .i64) fun (x199 : Int) =>
                            Ld vw198 ((⟨vw4.heap.size, 0, none⟩ : Addr).add 1) (Value.int .i64) fun (x200 : Int) =>
                            Ld vw198 ((⟨vw4.heap.size, 0, none⟩ : Addr).add 2) (Value.int .i64) fun (x201 : Int) =>
                            Ld vw198 ((⟨vw4.heap.size, 0, none⟩ : Addr).add 3) (Value.int .i64) fun (x202 : Int) =>
                            Ld vw198 ((⟨vw4.heap.size, 0, none⟩ : Addr).add 4) (Value.int .i64) fun (x203 : Int) =>
                            Ld vw198 ((⟨vw4.heap.size, 0, none⟩ : Addr).add 5) (Value.int .i64) fun (x204 : Int) =>
                            R (x199, x200, x201, x202, x203, x204) 2 vw198) (Br (r104 != 0) (St vw123 (⟨vw4.heap.size, 0, none⟩ : Addr) (.int .i64 0) fun vw205 =>
                              St vw205 ((⟨vw4.heap.size, 0, none⟩ : Addr).add 1) (.int .i64 0) fun vw206 =>
                              St vw206 ((⟨vw4.heap.size, 0, none⟩ : Addr).add 2) (.int .i64 0) fun vw207 =>
                              St vw207 ((⟨vw4.heap.size, 0, none⟩ : Addr).add 3) (.int .i64 0) fun vw208 =>
                              St vw208 ((⟨vw4.heap.size, 0, none⟩ : Addr).add 4) (.int .i64 0) fun vw209 =>
                              St vw209 ((⟨vw4.heap.size, 0, none⟩ : Addr).add 5) (.int .i64 0) fun vw210 =>
                              Ld vw210 (⟨vw4.heap.size, 0, none⟩ : Addr) (Value.int .i64) fun (x211 : Int) =>
                              Ld vw210 ((⟨vw4.heap.size, 0, none⟩ : Addr).add 1) (Value.int .i64) fun (x212 : Int) =>
                              Ld vw210 ((⟨vw4.heap.size, 0, none⟩ : Addr).add 2) (Value.int .i64) fun (x213 : Int) =>
                              Ld vw210 ((⟨vw4.heap.size, 0, none⟩ : Addr).add 3) (Value.int .i64) fun (x214 : Int) =>
                              Ld vw210 ((⟨vw4.heap.size, 0, none⟩ : Addr).add 4) (Value.int .i64) fun (x215 : Int) =>
                              Ld vw210 ((⟨vw4.heap.size, 0, none⟩ : Addr).add 5) (Value.int .i64) fun (x216 : Int) =>
                              R (x211, x212, x213, x214, x215, x216) 2 vw210) (Br (r113 != 0) (St vw123 (⟨vw4.heap.size, 0, none⟩ : Addr) (.int .i64 0) fun vw217 =>
                                St vw217 ((⟨vw4.heap.size, 0, none⟩ : Addr).add 1) (.int .i64 0) fun vw218 =>
                                St vw218 ((⟨vw4.heap.size, 0, none⟩ : Addr).add 2) (.int .i64 0) fun vw219 =>
                                St vw219 ((⟨vw4.heap.size, 0, none⟩ : Addr).add 3) (.int .i64 0) fun vw220 =>
                                St vw220 ((⟨vw4.heap.size, 0, none⟩ : Addr).add 4) (.int .i64 0) fun vw221 =>
                                St vw221 ((⟨vw4.heap.size, 0, none⟩ : Addr).add 5) (.int .i64 0) fun vw222 =>
                                Ld vw222 (⟨vw4.heap.size, 0, none⟩ : Addr) (Value.int .i64) fun (x223 : Int) =>
                                Ld vw222 ((⟨vw4.heap.size, 0, none⟩ : Addr).add 1) (Value.int .i64) fun (x224 : Int) =>
                                Ld vw222 ((⟨vw4.heap.size, 0, none⟩ : Addr).add 2) (Value.int .i64) fun (x225 : Int) =>
                                Ld vw222 ((⟨vw4.heap.size, 0, none⟩ : Addr).add 3) (Value.int .i64) fun (x226 : Int) =>
                                Ld vw222 ((⟨vw4.heap.size, 0, none⟩ : Addr).add 4) (Value.int .i64) fun (x227 : Int) =>
                                Ld vw222 ((⟨vw4.heap.size, 0, none⟩ : Addr).add 5) (Value.int .i64) fun (x228 : Int) =>
                                R (x223, x224, x225, x226, x227, x228) 2 vw222) (Br (r122 != 0) (St vw123 (⟨vw4.heap.size, 0, none⟩ : Addr) (.int .i64 0) fun vw229 =>
                                  St vw229 ((⟨vw4.heap.size, 0, none⟩ : Addr).add 1) (.int .i64 0) fun vw230 =>
                                  St vw230 ((⟨vw4.heap.size, 0, none⟩ : Addr).add 2) (.int .i64 0) fun vw231 =>
                                  St vw231 ((⟨vw4.heap.size, 0, none⟩ : Addr).add 3) (.int .i64 0) fun vw232 =>
                                  St vw232 ((⟨vw4.heap.size, 0, none⟩ : Addr).add 4) (.int .i64 0) fun vw233 =>
                                  St vw233 ((⟨vw4.heap.size, 0, none⟩ : Addr).add 5) (.int .i64 0) fun vw234 =>
                                  Ld vw234 (⟨vw4.heap.size, 0, none⟩ : Addr) (Value.int .i64) fun (x235 : Int) =>
                                  Ld vw234 ((⟨vw4.heap.size, 0, none⟩ : Addr).add 1) (Value.int .i64) fun (x236 : Int) =>
                                  Ld vw234 ((⟨vw4.heap.size, 0, none⟩ : Addr).add 2) (Value.int .i64) fun (x237 : Int) =>
                                  Ld vw234 ((⟨vw4.heap.size, 0, none⟩ : Addr).add 3) (Value.int .i64) fun (x238 : Int) =>
                                  Ld vw234 ((⟨vw4.heap.size, 0, none⟩ : Addr).add 4) (Value.int .i64) fun (x239 : Int) =>
                                  Ld vw234 ((⟨vw4.heap.size, 0, none⟩ : Addr).add 5) (Value.int .i64) fun (x240 : Int) =>
                                  R (x235, x236, x237, x238, x239, x240) 2 vw234) (Nw vw123 (.cells #[.int .i64 r79, .int .i64 r87, .int .i64 r95, .int .i64 r103, .int .i64 r112, .int .i64 r121] 2) fun vw241 =>
                                  C106 (⟨some ⟨vw123.heap.size, 0, none⟩, 6, 6⟩ : Slc) vw241 fun r242 vw243 =>
                                    Br (!r242) (St vw243 (⟨vw4.heap.size, 0, none⟩ : Addr) (.int .i64 0) fun vw244 =>
                                      St vw244 ((⟨vw4.heap.size, 0, none⟩ : Addr).add 1) (.int .i64 0) fun vw245 =>
                                      St vw245 ((⟨vw4.heap.size, 0, none⟩ : Addr).add 2) (.int .i64 0) fun vw246 =>
                                      St vw246 ((⟨vw4.heap.size, 0, none⟩ : Addr).add 3) (.int .i64 0) fun vw247 =>
                                      St vw247 ((⟨vw4.heap.size, 0, none⟩ : Addr).add 4) (.int .i64 0) fun vw248 =>
                                      St vw248 ((⟨vw4.heap.size, 0, none⟩ : Addr).add 5) (.int .i64 0) fun vw249 =>
                                      Ld vw249 (⟨vw4.heap.size, 0, none⟩ : Addr) (Value.int .i64) fun (x250 : Int) =>
                                      Ld vw249 ((⟨vw4.heap.size, 0, none⟩ : Addr).add 1) (Value.int .i64) fun (x251 : Int) =>
                                      Ld vw249 ((⟨vw4.heap.size, 0, none⟩ : Addr).add 2) (Value.int .i64) fun (x252 : Int) =>
                                      Ld vw249 ((⟨vw4.heap.size, 0, none⟩ : Addr).add 3) (Value.int .i64) fun (x253 : Int) =>
                                      Ld vw249 ((⟨vw4.heap.size, 0, none⟩ : Addr).add 4) (Value.int .i64) fun (x254 : Int) =>
                                      Ld vw249 ((⟨vw4.heap.size, 0, none⟩ : Addr).add 5) (Value.int .i64) fun (x255 : Int) =>
                                      R (x250, x251, x252, x253, x254, x255) 2 vw249) (St vw243 (⟨vw4.heap.size, 0, none⟩ : Addr) (.int .i64 r79) fun vw256 =>
                                      St vw256 ((⟨vw4.heap.size, 0, none⟩ : Addr).add 1) (.int .i64 r87) fun vw257 =>
                                      St vw257 ((⟨vw4.heap.size, 0, none⟩ : Addr).add 2) (.int .i64 r95) fun vw258 =>
                                      St vw258 ((⟨vw4.heap.size, 0, none⟩ : Addr).add 3) (.int .i64 r103) fun vw259 =>
                                      St vw259 ((⟨vw4.heap.size, 0, none⟩ : Addr).add 4) (.int .i64 r112) fun vw260 =>
                                      St vw260 ((⟨vw4.heap.size, 0, none⟩ : Addr).add 5) (.int .i64 r121) fun vw261 =>
                                      Ld vw261 (⟨vw4.heap.size, 0, none⟩ : Addr) (Value.int .i64) fun (x262 : Int) =>
                                      Ld vw261 ((⟨vw4.heap.size, 0, none⟩ : Addr).add 1) (Value.int .i64) fun (x263 : Int) =>
                                      Ld vw261 ((⟨vw4.heap.size, 0, none⟩ : Addr).add 2) (Value.int .i64) fun (x264 : Int) =>
                                      Ld vw261 ((⟨vw4.heap.size, 0, none⟩ : Addr).add 3) (Value.int .i64) fun (x265 : Int) =>
                                      Ld vw261 ((⟨vw4.heap.size, 0, none⟩ : Addr).add 4) (Value.int .i64) fun (x266 : Int) =>
                                      Ld vw261 ((⟨vw4.heap.size, 0, none⟩ : Addr).add 5) (Value.int .i64) fun (x267 : Int) =>
                                      R (x262, x263, x264, x265, x266, x267) 0 vw261)))))))))
def pl172 : Plan := (.seq (.reg .seq) (.seq (.seq (.reg .seq) (.cond (.seq (.reg .seq) .leaf) .leaf)) (.seq (.reg .seq) (.seq (.reg .seq) (.seq (.reg .seq) (.seq (.reg .seq) (.seq (.reg .seq) (.seq (.reg .seq) (.seq (.seq (.reg .seq) (.cond (.seq (.reg .seq) .leaf) .leaf)) (.seq (.reg .seq) .leaf))))))))))
set_option maxRecDepth 100000 in
theorem T172 (a1 : Int × Int × Int × Int × Int × Int) (b2 : Int × Int × Int × Int × Int × Int) (w : World) (R : (Int × Int × Int × Int × Int × Int) → Int → World → Prop) (h : S172 a1 b2 w R) : C172 (a1.1, a1.2.1, a1.2.2.1, a1.2.2.2.1, a1.2.2.2.2.1, a1.2.2.2.2.2) (b2.1, b2.2.1, b2.2.2.1, b2.2.2.2.1, b2.2.2.2.2.1, b2.2.2.2.2.2) w R := by
  have e : fnT Tryd.prog ⟨FF, MAY, (fun _ _ => False)⟩ pl172 Tryd.f172 [.agg #[.int .i64 (a1.1), .int .i64 (a1.2.1), .int .i64 (a1.2.2.1), .int .i64 (a1.2.2.2.1), .int .i64 (a1.2.2.2.2.1), .int .i64 (a1.2.2.2.2.2)], .agg #[.int .i64 (b2.1), .int .i64 (b2.2.1), .int .i64 (b2.2.2.1), .int .i64 (b2.2.2.2.1), .int .i64 (b2.2.2.2.2.1), .int .i64 (b2.2.2.2.2.2)]] w [(.agg [(.int .i64), (.int .i64), (.int .i64), (.int .i64), (.int .i64), (.int .i64)]), (.one (.int .i64))] (fun s w => R s.1 s.2 w) = S172 a1 b2 w R := by kernel_rfl
  exact (fn_calls okF okM Tryd.func172 (by kernel_rfl) (by kernel_rfl) (e.mpr h)).mono fun _ _ ⟨s, he, hR⟩ => ⟨s.1, s.2, he, hR⟩

/-- foliant/foliantref42.Apply -/
def S45 (m1 : Int × Int × Int × Int × Int × Int) (p2 : Int × Int) (w : World) (R : (Int × Int) → Int → World → Prop) : Prop :=
  Nw w (.cells #[.int .i64 (m1.1), .int .i64 (m1.2.1), .int .i64 (m1.2.2.1), .int .i64 (m1.2.2.2.1), .int .i64 (m1.2.2.2.2.1), .int .i64 (m1.2.2.2.2.2)] 23) fun vw3 =>
  Nw vw3 (.cells #[.int .i64 (p2.1), .int .i64 (p2.2)] 43) fun vw4 =>
  Nw vw4 (.cells #[.int .i64 0, .int .i64 0] 43) fun vw5 =>
  Ld vw5 (⟨w.heap.size, 0, none⟩ : Addr) (Value.int .i64) fun (x23 : Int) =>
  Ld vw5 ((⟨w.heap.size, 0, none⟩ : Addr).add 1) (Value.int .i64) fun (x24 : Int) =>
  Ld vw5 ((⟨w.heap.size, 0, none⟩ : Addr).add 2) (Value.int .i64) fun (x25 : Int) =>
  Ld vw5 ((⟨w.heap.size, 0, none⟩ : Addr).add 3) (Value.int .i64) fun (x26 : Int) =>
  Ld vw5 ((⟨w.heap.size, 0, none⟩ : Addr).add 4) (Value.int .i64) fun (x27 : Int) =>
  Ld vw5 ((⟨w.heap.size, 0, none⟩ : Addr).add 5) (Value.int .i64) fun (x28 : Int) =>
  C49 (x23, x24, x25, x26, x27, x28) vw5 fun r29 vw30 =>
    Br (r29 != 0) (St vw30 (⟨vw4.heap.size, 0, none⟩ : Addr) (.int .i64 0) fun vw31 =>
      St vw31 ((⟨vw4.heap.size, 0, none⟩ : Addr).add 1) (.int .i64 0) fun vw32 =>
      Ld vw32 (⟨vw4.heap.size, 0, none⟩ : Addr) (Value.int .i64) fun (x33 : Int) =>
      Ld vw32 ((⟨vw4.heap.size, 0, none⟩ : Addr).add 1) (Value.int .i64) fun (x34 : Int) =>
      R (x33, x34) 2 vw32) (Ld vw30 (⟨vw3.heap.size, 0, none⟩ : Addr) (Value.int .i64) fun (x35 : Int) =>
      Ld vw30 ((⟨vw3.heap.size, 0, none⟩ : Addr).add 1) (Value.int .i64) fun (x36 : Int) =>
      Nw vw30 (.cells #[.int .i64 x35, .int .i64 x36] 2) fun vw37 =>
      C106 (⟨some ⟨vw30.heap.size, 0, none⟩, 2, 2⟩ : Slc) vw37 fun r38 vw39 =>
        Br (!r38) (St vw39 (⟨vw4.heap.size, 0, none⟩ : Addr) (.int .i64 0) fun vw40 =>
          St vw40 ((⟨vw4.heap.size, 0, none⟩ : Addr).add 1) (.int .i64 0) fun vw41 =>
          Ld vw41 (⟨vw4.heap.size, 0, none⟩ : Addr) (Value.int .i64) fun (x42 : Int) =>
          Ld vw41 ((⟨vw4.heap.size, 0, none⟩ : Addr).add 1) (Value.int .i64) fun (x43 : Int) =>
          R (x42, x43) 2 vw41) (Ld vw39 (⟨vw3.heap.size, 0, none⟩ : Addr) (Value.int .i64) fun (x44 : Int) =>
          Ld vw39 (⟨w.heap.size, 0, none⟩ : Addr) (Value.int .i64) fun (x45 : Int) =>
          Ld vw39 ((⟨vw3.heap.size, 0, none⟩ : Addr).add 1) (Value.int .i64) fun (x46 : Int) =>
          Ld vw39 ((⟨w.heap.size, 0, none⟩ : Addr).add 2) (Value.int .i64) fun (x47 : Int) =>
          Ld vw39 ((⟨w.heap.size, 0, none⟩ : Addr).add 4) (Value.int .i64) fun (x48 : Int) =>
          Nw vw39 (.cells #[.int .i64 x44, .int .i64 x45, .int .i64 x46, .int .i64 x47, .int .i64 x48, .int .i64 10000] 2) fun vw49 =>
          C107 (⟨some ⟨vw39.heap.size, 0, none⟩, 6, 6⟩ : Slc) vw49 fun r50 r51 vw52 =>
            Ld vw52 (⟨vw3.heap.size, 0, none⟩ : Addr) (Value.int .i64) fun (x53 : Int) =>
            Ld vw52 ((⟨w.heap.size, 0, none⟩ : Addr).add 1) (Value.int .i64) fun (x54 : Int) =>
            Ld vw52 ((⟨vw3.heap.size, 0, none⟩ : Addr).add 1) (Value.int .i64) fun (x55 : Int) =>
            Ld vw52 ((⟨w.heap.size, 0, none⟩ : Addr).add 3) (Value.int .i64) fun (x56 : Int) =>
            Ld vw52 ((⟨w.heap.size, 0, none⟩ : Addr).add 5) (Value.int .i64) fun (x57 : Int) =>
            Nw vw52 (.cells #[.int .i64 x53, .int .i64 x54, .int .i64 x55, .int .i64 x56, .int .i64 x57, .int .i64 10000] 2) fun vw58 =>
            C107 (⟨some ⟨vw52.heap.size, 0, none⟩, 6, 6⟩ : Slc) vw58 fun r59 r60 vw61 =>
              Br (r51 != 0) (St vw61 (⟨vw4.heap.size, 0, none⟩ : Addr) (.int .i64 0) fun vw71 =>
                St vw71 ((⟨vw4.heap.size, 0, none⟩ : Addr).add 1) (.int .i64 0) fun vw72 =>
                Ld vw72 (⟨vw4.heap.size, 0, none⟩ : Addr) (Value.int .i64) fun (x73 : Int) =>
                Ld vw72 ((⟨vw4.heap.size, 0, none⟩ : Addr).add 1) (Value.int .i64) fun (x74 : Int) =>
                R (x73, x74) 2 vw72) (Br (r60 != 0) (St vw61 (⟨vw4.heap.size, 0, none⟩ : Addr) (.int .i64 0) fun vw75 =>
                  St vw75 ((⟨vw4.heap.size, 0, none⟩ : Addr).add 1) (.int .i64 0) fun vw76 =>
                  Ld vw76 (⟨vw4.heap.size, 0, none⟩ : Addr) (Value.int .i64) fun (x77 : Int) =>
                  Ld vw76 ((⟨vw4.heap.size, 0, none⟩ : Addr).add 1) (Value.int .i64) fun (x78 : Int) =>
                  R (x77, x78) 2 vw76) (Nw vw61 (.cells #[.int .i64 r50, .int .i64 r59] 2) fun vw79 =>
                  C106 (⟨some ⟨vw61.heap.size, 0, none⟩, 2, 2⟩ : Slc) vw79 fun r80 vw81 =>
                    Br (!r80) (St vw81 (⟨vw4.heap.size, 0, none⟩ : Addr) (.int .i64 0) fun vw82 =>
                      St vw82 ((⟨vw4.heap.size, 0, none⟩ : Addr).add 1) (.int .i64 0) fun vw83 =>
                      Ld vw83 (⟨vw4.heap.size, 0, none⟩ : Addr) (Value.int .i64) fun (x84 : Int) =>
                      Ld vw83 ((⟨vw4.heap.size, 0, none⟩ : Addr).add 1) (Value.int .i64) fun (x85 : Int) =>
                      R (x84, x85) 2 vw83) (St vw81 (⟨vw4.heap.size, 0, none⟩ : Addr) (.int .i64 r50) fun vw86 =>
                      St vw86 ((⟨vw4.heap.size, 0, none⟩ : Addr).add 1) (.int .i64 r59) fun vw87 =>
                      Ld vw87 (⟨vw4.heap.size, 0, none⟩ : Addr) (Value.int .i64) fun (x88 : Int) =>
                      Ld vw87 ((⟨vw4.heap.size, 0, none⟩ : Addr).add 1) (Value.int .i64) fun (x89 : Int) =>
                      R (x88, x89) 0 vw87)))))
def pl45 : Plan := (.seq (.reg .seq) (.seq (.seq (.reg .seq) (.cond (.seq (.reg .seq) .leaf) .leaf)) (.seq (.reg .seq) (.seq (.reg .seq) (.seq (.seq (.reg .seq) (.cond (.seq (.reg .seq) .leaf) .leaf)) (.seq (.reg .seq) .leaf))))))
set_option maxRecDepth 100000 in
theorem T45 (m1 : Int × Int × Int × Int × Int × Int) (p2 : Int × Int) (w : World) (R : (Int × Int) → Int → World → Prop) (h : S45 m1 p2 w R) : C45 (m1.1, m1.2.1, m1.2.2.1, m1.2.2.2.1, m1.2.2.2.2.1, m1.2.2.2.2.2) (p2.1, p2.2) w R := by
  have e : fnT Tryd.prog ⟨FF, MAY, (fun _ _ => False)⟩ pl45 Tryd.f45 [.agg #[.int .i64 (m1.1), .int .i64 (m1.2.1), .int .i64 (m1.2.2.1), .int .i64 (m1.2.2.2.1), .int .i64 (m1.2.2.2.2.1), .int .i64 (m1.2.2.2.2.2)], .agg #[.int .i64 (p2.1), .int .i64 (p2.2)]] w [(.agg [(.int .i64), (.int .i64)]), (.one (.int .i64))] (fun s w => R s.1 s.2 w) = S45 m1 p2 w R := by kernel_rfl
  exact (fn_calls okF okM Tryd.func45 (by kernel_rfl) (by kernel_rfl) (e.mpr h)).mono fun _ _ ⟨s, he, hR⟩ => ⟨s.1, s.2, he, hR⟩

/-- foliant/foliantref42.One -/
def S44 (w : World) (R : (Int × Int × Int × Int × Int × Int) → World → Prop) : Prop :=
  Nw w (.cells #[.int .i64 0, .int .i64 0, .int .i64 0, .int .i64 0, .int .i64 0, .int .i64 0] 23) fun vw1 =>
  St vw1 (⟨w.heap.size, 0, none⟩ : Addr) (.int .i64 10000) fun vw2 =>
  St vw2 ((⟨w.heap.size, 0, none⟩ : Addr).add 1) (.int .i64 0) fun vw3 =>
  St vw3 ((⟨w.heap.size, 0, none⟩ : Addr).add 2) (.int .i64 0) fun vw4 =>
  St vw4 ((⟨w.heap.size, 0, none⟩ : Addr).add 3) (.int .i64 10000) fun vw5 =>
  St vw5 ((⟨w.heap.size, 0, none⟩ : Addr).add 4) (.int .i64 0) fun vw6 =>
  St vw6 ((⟨w.heap.size, 0, none⟩ : Addr).add 5) (.int .i64 0) fun vw7 =>
  Ld vw7 (⟨w.heap.size, 0, none⟩ : Addr) (Value.int .i64) fun (x8 : Int) =>
  Ld vw7 ((⟨w.heap.size, 0, none⟩ : Addr).add 1) (Value.int .i64) fun (x9 : Int) =>
  Ld vw7 ((⟨w.heap.size, 0, none⟩ : Addr).add 2) (Value.int .i64) fun (x10 : Int) =>
  Ld vw7 ((⟨w.heap.size, 0, none⟩ : Addr).add 3) (Value.int .i64) fun (x11 : Int) =>
  Ld vw7 ((⟨w.heap.size, 0, none⟩ : Addr).add 4) (Value.int .i64) fun (x12 : Int) =>
  Ld vw7 ((⟨w.heap.size, 0, none⟩ : Addr).add 5) (Value.int .i64) fun (x13 : Int) =>
  R (x8, x9, x10, x11, x12, x13) vw7
def pl44 : Plan := (.seq (.reg .seq) (.seq (.reg .seq) .leaf))
set_option maxRecDepth 100000 in
theorem T44 (w : World) (R : (Int × Int × Int × Int × Int × Int) → World → Prop) (h : S44 w R) : C44 w R := by
  have e : fnT Tryd.prog ⟨FF, MAY, (fun _ _ => False)⟩ pl44 Tryd.f44 [] w [(.agg [(.int .i64), (.int .i64), (.int .i64), (.int .i64), (.int .i64), (.int .i64)])] (fun s w => R s w) = S44 w R := by kernel_rfl
  exact (fn_calls okF okM Tryd.func44 (by kernel_rfl) (by kernel_rfl) (e.mpr h)).mono fun _ _ ⟨s, he, hR⟩ => ⟨s, he, hR⟩

/-- foliant/foliantref42.Scale -/
def S96 (x1 : Int) (y2 : Int) (w : World) (R : (Int × Int × Int × Int × Int × Int) → World → Prop) : Prop :=
  Nw w (.cells #[.int .i64 0, .int .i64 0, .int .i64 0, .int .i64 0, .int .i64 0, .int .i64 0] 23) fun vw3 =>
  St vw3 (⟨w.heap.size, 0, none⟩ : Addr) (.int .i64 x1) fun vw4 =>
  St vw4 ((⟨w.heap.size, 0, none⟩ : Addr).add 1) (.int .i64 0) fun vw5 =>
  St vw5 ((⟨w.heap.size, 0, none⟩ : Addr).add 2) (.int .i64 0) fun vw6 =>
  St vw6 ((⟨w.heap.size, 0, none⟩ : Addr).add 3) (.int .i64 y2) fun vw7 =>
  St vw7 ((⟨w.heap.size, 0, none⟩ : Addr).add 4) (.int .i64 0) fun vw8 =>
  St vw8 ((⟨w.heap.size, 0, none⟩ : Addr).add 5) (.int .i64 0) fun vw9 =>
  Ld vw9 (⟨w.heap.size, 0, none⟩ : Addr) (Value.int .i64) fun (x10 : Int) =>
  Ld vw9 ((⟨w.heap.size, 0, none⟩ : Addr).add 1) (Value.int .i64) fun (x11 : Int) =>
  Ld vw9 ((⟨w.heap.size, 0, none⟩ : Addr).add 2) (Value.int .i64) fun (x12 : Int) =>
  Ld vw9 ((⟨w.heap.size, 0, none⟩ : Addr).add 3) (Value.int .i64) fun (x13 : Int) =>
  Ld vw9 ((⟨w.heap.size, 0, none⟩ : Addr).add 4) (Value.int .i64) fun (x14 : Int) =>
  Ld vw9 ((⟨w.heap.size, 0, none⟩ : Addr).add 5) (Value.int .i64) fun (x15 : Int) =>
  R (x10, x11, x12, x13, x14, x15) vw9
def pl96 : Plan := (.seq (.reg .seq) (.seq (.reg .seq) .leaf))
set_option maxRecDepth 100000 in
theorem T96 (x1 : Int) (y2 : Int) (w : World) (R : (Int × Int × Int × Int × Int × Int) → World → Prop) (h : S96 x1 y2 w R) : C96 x1 y2 w R := by
  have e : fnT Tryd.prog ⟨FF, MAY, (fun _ _ => False)⟩ pl96 Tryd.f96 [.int .i64 x1, .int .i64 y2] w [(.agg [(.int .i64), (.int .i64), (.int .i64), (.int .i64), (.int .i64), (.int .i64)])] (fun s w => R s w) = S96 x1 y2 w R := by kernel_rfl
  exact (fn_calls okF okM Tryd.func96 (by kernel_rfl) (by kernel_rfl) (e.mpr h)).mono fun _ _ ⟨s, he, hR⟩ => ⟨s, he, hR⟩

end Go.Proofs.YtjbeembbnkmpeaaDoor

/- The formulas of 5 functions of the program, written by program (gen.py); the kernel checks each. No condition. -/
namespace Go.Proofs.YtjbeembbnkmpeaaDoor
open Sh
set_option linter.unusedVariables false
set_option maxRecDepth 100000

def C191 (n1 : Int) (least2 : Int) (most3 : Int) (w : World) (R : Bool → World → Prop) : Prop :=
  Calls Tryd.prog 191 #[.int .i64 n1, .int .i64 least2, .int .i64 most3] w fun e w' => ∃ r0 : Bool, e = .returned (.bool r0) ∧ R r0 w'
theorem C191.mono {n1 : Int} {least2 : Int} {most3 : Int} {w : World} {R R' : Bool → World → Prop} (h : C191 n1 least2 most3 w R) (hr : ∀ r0 w', R r0 w' → R' r0 w') : C191 n1 least2 most3 w R' :=
  Calls.mono h fun _ _ ⟨r0, he, hR⟩ => ⟨r0, he, hr _ _ hR⟩
def C143 (o1 : Int × Int × Int × ByteArray × Slc × Slc) (w : World) (R : Int → Bool → World → Prop) : Prop :=
  Calls Tryd.prog 143 #[.agg #[.int .i64 (o1.1), .int .i64 (o1.2.1), .int .i64 (o1.2.2.1), .string o1.2.2.2.1, Slc.v o1.2.2.2.2.1, Slc.v o1.2.2.2.2.2]] w fun e w' => ∃ r0 : Int, ∃ r1 : Bool, e = .returned (.tuple #[.int .i64 r0, .bool r1]) ∧ R r0 r1 w'
theorem C143.mono {o1 : Int × Int × Int × ByteArray × Slc × Slc} {w : World} {R R' : Int → Bool → World → Prop} (h : C143 o1 w R) (hr : ∀ r0 r1 w', R r0 r1 w' → R' r0 r1 w') : C143 o1 w R' :=
  Calls.mono h fun _ _ ⟨r0, r1, he, hR⟩ => ⟨r0, r1, he, hr _ _ _ hR⟩
def C157 (o1 : Int × Int × Int × ByteArray × Slc × Slc) (w : World) (R : Int → Bool → World → Prop) : Prop :=
  Calls Tryd.prog 157 #[.agg #[.int .i64 (o1.1), .int .i64 (o1.2.1), .int .i64 (o1.2.2.1), .string o1.2.2.2.1, Slc.v o1.2.2.2.2.1, Slc.v o1.2.2.2.2.2]] w fun e w' => ∃ r0 : Int, ∃ r1 : Bool, e = .returned (.tuple #[.int .i64 r0, .bool r1]) ∧ R r0 r1 w'
theorem C157.mono {o1 : Int × Int × Int × ByteArray × Slc × Slc} {w : World} {R R' : Int → Bool → World → Prop} (h : C157 o1 w R) (hr : ∀ r0 r1 w', R r0 r1 w' → R' r0 r1 w') : C157 o1 w R' :=
  Calls.mono h fun _ _ ⟨r0, r1, he, hR⟩ => ⟨r0, r1, he, hr _ _ _ hR⟩
def C95 (o1 : Int × Int × Int × ByteArray × Slc × Slc) (w : World) (R : Int → World → Prop) : Prop :=
  Calls Tryd.prog 95 #[.agg #[.int .i64 (o1.1), .int .i64 (o1.2.1), .int .i64 (o1.2.2.1), .string o1.2.2.2.1, Slc.v o1.2.2.2.2.1, Slc.v o1.2.2.2.2.2]] w fun e w' => ∃ r0 : Int, e = .returned (.int .i64 r0) ∧ R r0 w'
theorem C95.mono {o1 : Int × Int × Int × ByteArray × Slc × Slc} {w : World} {R R' : Int → World → Prop} (h : C95 o1 w R) (hr : ∀ r0 w', R r0 w' → R' r0 w') : C95 o1 w R' :=
  Calls.mono h fun _ _ ⟨r0, he, hR⟩ => ⟨r0, he, hr _ _ hR⟩
def C162 (n1 : Int) (w : World) (R : (Int × Int × Int × ByteArray × Slc × Slc) → World → Prop) : Prop :=
  Calls Tryd.prog 162 #[.int .i64 n1] w fun e w' => ∃ r0 : Int × Int × Int × ByteArray × Slc × Slc, e = .returned (.agg #[.int .i64 (r0.1), .int .i64 (r0.2.1), .int .i64 (r0.2.2.1), .string r0.2.2.2.1, Slc.v r0.2.2.2.2.1, Slc.v r0.2.2.2.2.2]) ∧ R r0 w'
theorem C162.mono {n1 : Int} {w : World} {R R' : (Int × Int × Int × ByteArray × Slc × Slc) → World → Prop} (h : C162 n1 w R) (hr : ∀ r0 w', R r0 w' → R' r0 w') : C162 n1 w R' :=
  Calls.mono h fun _ _ ⟨r0, he, hR⟩ => ⟨r0, he, hr _ _ hR⟩

/-- foliant/value.within[int64] -/
def S191 (n1 : Int) (least2 : Int) (most3 : Int) (w : World) (R : Bool → World → Prop) : Prop :=
  Br (decide (least2 ≤ n1)) (R (decide (n1 ≤ most3)) w) (R false w)
def pl191 : Plan := (.seq (.reg .seq) (.seq (.reg .seq) .leaf))
set_option maxRecDepth 100000 in
theorem T191 (n1 : Int) (least2 : Int) (most3 : Int) (w : World) (R : Bool → World → Prop) (h : S191 n1 least2 most3 w R) : C191 n1 least2 most3 w R := by
  have e : fnT Tryd.prog ⟨FF, MAY, (fun _ _ => False)⟩ pl191 Tryd.f191 [.int .i64 n1, .int .i64 least2, .int .i64 most3] w [(.one .bool)] (fun s w => R s w) = S191 n1 least2 most3 w R := by kernel_rfl
  exact (fn_calls okF okM Tryd.func191 (by kernel_rfl) (by kernel_rfl) (e.mpr h)).mono fun _ _ ⟨s, he, hR⟩ => ⟨s, he, hR⟩

/-- foliant/value.Number -/
def S143 (o1 : Int × Int × Int × ByteArray × Slc × Slc) (w : World) (R : Int → Bool → World → Prop) : Prop :=
  Nw w (.cells #[.int .i64 (o1.1), .int .i64 (o1.2.1), .int .i64 (o1.2.2.1), .string o1.2.2.2.1, Slc.v o1.2.2.2.2.1, Slc.v o1.2.2.2.2.2] 81) fun vw2 =>
  Ld vw2 ((⟨w.heap.size, 0, none⟩ : Addr).add 1) (Value.int .i64) fun (x3 : Int) =>
  Ld vw2 (⟨w.heap.size, 0, none⟩ : Addr) (Value.int .i64) fun (x7 : Int) =>
  Br (x7 == 2) (C191 x3 (-107374) 107374 vw2 fun r8 vw9 =>
      Br (!r8) (R 0 false vw9) (C191 (IntKind.i64.wrap (x3 * 10000)) (-1073741824) 1073741824 vw9 fun r10 vw11 =>
          Br (!r10) (R 0 false vw11) (R (IntKind.i64.wrap (x3 * 10000)) true vw11))) (Br (x7 == 3) (C191 x3 (-1073741824) 1073741824 vw2 fun r12 vw13 =>
        Br (!r12) (R 0 false vw13) (R x3 true vw13)) (R 0 false vw2))
def pl143 : Plan := (.seq (.reg .seq) (.seq (.reg .seq) (.seq (.seq (.reg .seq) (.block (.seq (.reg .seq) (.cond (.seq (.seq (.reg .seq) (.cond (.seq (.reg .seq) .leaf) .leaf)) (.reg .seq)) (.seq (.reg .seq) (.cond .leaf (.seq (.reg .seq) .leaf))))))) (.seq (.seq (.reg .seq) (.cond (.seq (.reg .seq) .leaf) .leaf)) (.seq (.reg .seq) .leaf)))))
set_option maxRecDepth 100000 in
theorem T143 (o1 : Int × Int × Int × ByteArray × Slc × Slc) (w : World) (R : Int → Bool → World → Prop) (h : S143 o1 w R) : C143 (o1.1, o1.2.1, o1.2.2.1, o1.2.2.2.1, o1.2.2.2.2.1, o1.2.2.2.2.2) w R := by
  have e : fnT Tryd.prog ⟨FF, MAY, (fun _ _ => False)⟩ pl143 Tryd.f143 [.agg #[.int .i64 (o1.1), .int .i64 (o1.2.1), .int .i64 (o1.2.2.1), .string o1.2.2.2.1, Slc.v o1.2.2.2.2.1, Slc.v o1.2.2.2.2.2]] w [(.one (.int .i64)), (.one .bool)] (fun s w => R s.1 s.2 w) = S143 o1 w R := by kernel_rfl
  exact (fn_calls okF okM Tryd.func143 (by kernel_rfl) (by kernel_rfl) (e.mpr h)).mono fun _ _ ⟨s, he, hR⟩ => ⟨s.1, s.2, he, hR⟩

def S157J1 (w : World) (R : Int → Bool → World → Prop) (s7 : Unit) (vw8 : World) : Prop :=
  Ld vw8 (⟨w.heap.size, 0, none⟩ : Addr) (Value.int .i64) fun (x9 : Int) =>
  Br (x9 == 2) (Ld vw8 ((⟨w.heap.size, 0, none⟩ : Addr).add 1) (Value.int .i64) fun (x10 : Int) =>
    Br (decide (x10 ≥ (-107374))) (Ld vw8 ((⟨w.heap.size, 0, none⟩ : Addr).add 1) (Value.int .i64) fun (x11 : Int) =>
      Br (decide (x11 ≤ 107374)) (Ld vw8 ((⟨w.heap.size, 0, none⟩ : Addr).add 1) (Value.int .i64) fun (x12 : Int) =>
        R (IntKind.i64.wrap (10000 * x12)) true vw8) (R 0 false vw8)) (R 0 false vw8)) (R 0 false vw8)
/-- foliant/foliantref05.Number -/
def S157 (o1 : Int × Int × Int × ByteArray × Slc × Slc) (w : World) (R : Int → Bool → World → Prop) : Prop :=
  Nw w (.cells #[.int .i64 (o1.1), .int .i64 (o1.2.1), .int .i64 (o1.2.2.1), .string o1.2.2.2.1, Slc.v o1.2.2.2.2.1, Slc.v o1.2.2.2.2.2] 81) fun vw2 =>
  Join (S157J1 w R) fun (vJ13 : Unit → World → Prop) =>
    Ld vw2 (⟨w.heap.size, 0, none⟩ : Addr) (Value.int .i64) fun (x14 : Int) =>
    Br (x14 == 3) (Ld vw2 ((⟨w.heap.size, 0, none⟩ : Addr).add 1) (Value.int .i64) fun (x15 : Int) =>
      Br (decide (x15 ≥ (-1073741824))) (Ld vw2 ((⟨w.heap.size, 0, none⟩ : Addr).add 1) (Value.int .i64) fun (x16 : Int) =>
        Br (decide (x16 ≤ 1073741824)) (Ld vw2 ((⟨w.heap.size, 0, none⟩ : Addr).add 1) (Value.int .i64) fun (x17 : Int) =>
          R x17 true vw2) (vJ13 () vw2)) (vJ13 () vw2)) (vJ13 () vw2)
def pl157 : Plan := (.seq (.reg .seq) (.join [] [1] (.seq (.reg .seq) (.cond (.seq (.reg .seq) .leaf) .leaf)) (.seq (.seq (.reg .seq) (.cond (.seq (.reg .seq) .leaf) .leaf)) (.seq (.reg .seq) .leaf))))
set_option maxRecDepth 100000 in
theorem T157 (o1 : Int × Int × Int × ByteArray × Slc × Slc) (w : World) (R : Int → Bool → World → Prop) (h : S157 o1 w R) : C157 (o1.1, o1.2.1, o1.2.2.1, o1.2.2.2.1, o1.2.2.2.2.1, o1.2.2.2.2.2) w R := by
  have e : fnT Tryd.prog ⟨FF, MAY, (fun _ _ => False)⟩ pl157 Tryd.f157 [.agg #[.int .i64 (o1.1), .int .i64 (o1.2.1), .int .i64 (o1.2.2.1), .string o1.2.2.2.1, Slc.v o1.2.2.2.2.1, Slc.v o1.2.2.2.2.2]] w [(.one (.int .i64)), (.one .bool)] (fun s w => R s.1 s.2 w) = S157 o1 w R := by kernel_rfl
  exact (fn_calls okF okM Tryd.func157 (by kernel_rfl) (by kernel_rfl) (e.mpr h)).mono fun _ _ ⟨s, he, hR⟩ => ⟨s.1, s.2, he, hR⟩

def S95L1 (x16 : Slc) (R : Int → World → Prop) (I19 : (Int × Int) → World → Prop) (s17 : Int × Int) (vw18 : World) : Prop :=
  Br (decide (s17.2 < ((x16.len : Nat) : Int))) (0 ≤ s17.2 ∧ s17.2 < (x16.len : Nat) ∧ Nn x16.p fun a20 =>
    Ld vw18 (a20.add ((s17.2).toNat * 6)) (Value.int .i64) fun (x21 : Int) =>
    Ld vw18 ((a20.add ((s17.2).toNat * 6)).add 1) (Value.int .i64) fun (x22 : Int) =>
    Ld vw18 ((a20.add ((s17.2).toNat * 6)).add 2) (Value.int .i64) fun (x23 : Int) =>
    Ld vw18 ((a20.add ((s17.2).toNat * 6)).add 3) Value.string fun (x24 : ByteArray) =>
    Ld vw18 ((a20.add ((s17.2).toNat * 6)).add 4) Slc.v fun (x25 : Slc) =>
    Ld vw18 ((a20.add ((s17.2).toNat * 6)).add 5) Slc.v fun (x26 : Slc) =>
    Nw vw18 (.cells #[.int .i64 0, .int .i64 0, .int .i64 0, .string ((⟨#[]⟩ : ByteArray)), Slc.v ((⟨none, 0, 0⟩ : Slc)), Slc.v ((⟨none, 0, 0⟩ : Slc))] 81) fun vw27 =>
    St vw27 (⟨vw18.heap.size, 0, none⟩ : Addr) (.int .i64 x21) fun vw28 =>
    St vw28 ((⟨vw18.heap.size, 0, none⟩ : Addr).add 1) (.int .i64 x22) fun vw29 =>
    St vw29 ((⟨vw18.heap.size, 0, none⟩ : Addr).add 2) (.int .i64 x23) fun vw30 =>
    St vw30 ((⟨vw18.heap.size, 0, none⟩ : Addr).add 3) (.string x24) fun vw31 =>
    St vw31 ((⟨vw18.heap.size, 0, none⟩ : Addr).add 4) (Slc.v x25) fun vw32 =>
    St vw32 ((⟨vw18.heap.size, 0, none⟩ : Addr).add 5) (Slc.v x26) fun vw33 =>
    Ld vw33 (⟨vw18.heap.size, 0, none⟩ : Addr) (Value.int .i64) fun (x34 : Int) =>
    Ld vw33 ((⟨vw18.heap.size, 0, none⟩ : Addr).add 1) (Value.int .i64) fun (x35 : Int) =>
    Ld vw33 ((⟨vw18.heap.size, 0, none⟩ : Addr).add 2) (Value.int .i64) fun (x36 : Int) =>
    Ld vw33 ((⟨vw18.heap.size, 0, none⟩ : Addr).add 3) Value.string fun (x37 : ByteArray) =>
    Ld vw33 ((⟨vw18.heap.size, 0, none⟩ : Addr).add 4) Slc.v fun (x38 : Slc) =>
    Ld vw33 ((⟨vw18.heap.size, 0, none⟩ : Addr).add 5) Slc.v fun (x39 : Slc) =>
    C95 (x34, x35, x36, x37, x38, x39) vw33 fun r40 vw41 =>
      I19 (IntKind.i64.wrap (s17.1 + r40), IntKind.i64.wrap (s17.2 + 1)) vw41) (R s17.1 vw18)
def S95L2 (w : World) (x10 : Slc) (R : Int → World → Prop) (I13 : (Int × Int) → World → Prop) (s11 : Int × Int) (vw12 : World) : Prop :=
  Br (decide (s11.2 < ((x10.len : Nat) : Int))) (0 ≤ s11.2 ∧ s11.2 < (x10.len : Nat) ∧ Nn x10.p fun a14 =>
    Ld vw12 (a14.add ((s11.2).toNat * 1)) Value.string fun (x15 : ByteArray) =>
    I13 (IntKind.i64.wrap (s11.1 + (IntKind.i64.wrap (Int.tdiv (((x15).size : Nat) : Int) 50))), IntKind.i64.wrap (s11.2 + 1)) vw12) (Ld vw12 ((⟨w.heap.size, 0, none⟩ : Addr).add 5) Slc.v fun (x16 : Slc) =>
    Lp (σ := Int × Int) (S95L1 x16 R) (s11.1, 0) vw12)
/-- foliant/foliantref05.Size -/
def S95 (o1 : Int × Int × Int × ByteArray × Slc × Slc) (w : World) (R : Int → World → Prop) : Prop :=
  Nw w (.cells #[.int .i64 (o1.1), .int .i64 (o1.2.1), .int .i64 (o1.2.2.1), .string o1.2.2.2.1, Slc.v o1.2.2.2.2.1, Slc.v o1.2.2.2.2.2] 81) fun vw2 =>
  Ld vw2 ((⟨w.heap.size, 0, none⟩ : Addr).add 3) Value.string fun (x3 : ByteArray) =>
  Ld vw2 ((⟨w.heap.size, 0, none⟩ : Addr).add 4) Slc.v fun (x10 : Slc) =>
  Lp (σ := Int × Int) (S95L2 w x10 R) (IntKind.i64.wrap (1 + (IntKind.i64.wrap (Int.tdiv (((x3).size : Nat) : Int) 50))), 0) vw2
def pl95 : Plan := (.seq (.reg .seq) (.seq (.reg .seq) (.seq (.seq (.reg .seq) (.block (.loop [(3, (.one (.int .i64))), (16, (.one (.int .i64)))] [1, 14, 15] (.seq (.reg .seq) (.seq (.cond .leaf .leaf) (.seq (.block (.seq (.reg .seq) (.reg .seq))) (.reg .seq))))))) (.seq (.seq (.reg .seq) (.block (.loop [(3, (.one (.int .i64))), (29, (.one (.int .i64)))] [27, 28] (.seq (.reg .seq) (.seq (.cond .leaf .leaf) (.seq (.block (.seq (.reg .seq) (.reg .seq))) (.reg .seq))))))) (.seq (.reg .seq) .leaf)))))
set_option maxRecDepth 100000 in
theorem T95 (o1 : Int × Int × Int × ByteArray × Slc × Slc) (w : World) (R : Int → World → Prop) (h : S95 o1 w R) : C95 (o1.1, o1.2.1, o1.2.2.1, o1.2.2.2.1, o1.2.2.2.2.1, o1.2.2.2.2.2) w R := by
  have e : fnT Tryd.prog ⟨FF, MAY, (fun _ _ => False)⟩ pl95 Tryd.f95 [.agg #[.int .i64 (o1.1), .int .i64 (o1.2.1), .int .i64 (o1.2.2.1), .string o1.2.2.2.1, Slc.v o1.2.2.2.2.1, Slc.v o1.2.2.2.2.2]] w [(.one (.int .i64))] (fun s w => R s w) = S95 o1 w R := by kernel_rfl
  exact (fn_calls okF okM Tryd.func95 (by kernel_rfl) (by kernel_rfl) (e.mpr h)).mono fun _ _ ⟨s, he, hR⟩ => ⟨s, he, hR⟩

/-- foliant/foliantref05.Int -/
def S162 (n1 : Int) (w : World) (R : (Int × Int × Int × ByteArray × Slc × Slc) → World → Prop) : Prop :=
  Nw w (.cells #[.int .i64 0, .int .i64 0, .int .i64 0, .string ((⟨#[]⟩ : ByteArray)), Slc.v ((⟨none, 0, 0⟩ : Slc)), Slc.v ((⟨none, 0, 0⟩ : Slc))] 81) fun vw2 =>
  St vw2 (⟨w.heap.size, 0, none⟩ : Addr) (.int .i64 2) fun vw3 =>
  St vw3 ((⟨w.heap.size, 0, none⟩ : Addr).add 1) (.int .i64 n1) fun vw4 =>
  St vw4 ((⟨w.heap.size, 0, none⟩ : Addr).add 2) (.int .i64 0) fun vw5 =>
  St vw5 ((⟨w.heap.size, 0, none⟩ : Addr).add 3) (.string ((⟨#[]⟩ : ByteArray))) fun vw6 =>
  St vw6 ((⟨w.heap.size, 0, none⟩ : Addr).add 4) (Slc.v ((⟨none, 0, 0⟩ : Slc))) fun vw7 =>
  St vw7 ((⟨w.heap.size, 0, none⟩ : Addr).add 5) (Slc.v ((⟨none, 0, 0⟩ : Slc))) fun vw8 =>
  Ld vw8 (⟨w.heap.size, 0, none⟩ : Addr) (Value.int .i64) fun (x9 : Int) =>
  Ld vw8 ((⟨w.heap.size, 0, none⟩ : Addr).add 1) (Value.int .i64) fun (x10 : Int) =>
  Ld vw8 ((⟨w.heap.size, 0, none⟩ : Addr).add 2) (Value.int .i64) fun (x11 : Int) =>
  Ld vw8 ((⟨w.heap.size, 0, none⟩ : Addr).add 3) Value.string fun (x12 : ByteArray) =>
  Ld vw8 ((⟨w.heap.size, 0, none⟩ : Addr).add 4) Slc.v fun (x13 : Slc) =>
  Ld vw8 ((⟨w.heap.size, 0, none⟩ : Addr).add 5) Slc.v fun (x14 : Slc) =>
  R (x9, x10, x11, x12, x13, x14) vw8
def pl162 : Plan := (.seq (.reg .seq) (.seq (.reg .seq) .leaf))
set_option maxRecDepth 100000 in
theorem T162 (n1 : Int) (w : World) (R : (Int × Int × Int × ByteArray × Slc × Slc) → World → Prop) (h : S162 n1 w R) : C162 n1 w R := by
  have e : fnT Tryd.prog ⟨FF, MAY, (fun _ _ => False)⟩ pl162 Tryd.f162 [.int .i64 n1] w [(.agg [(.int .i64), (.int .i64), (.int .i64), .str, .slc, .slc])] (fun s w => R s w) = S162 n1 w R := by kernel_rfl
  exact (fn_calls okF okM Tryd.func162 (by kernel_rfl) (by kernel_rfl) (e.mpr h)).mono fun _ _ ⟨s, he, hR⟩ => ⟨s, he, hR⟩

end Go.Proofs.YtjbeembbnkmpeaaDoor

/- The formulas of 14 functions of the program, written by program (gen.py); the kernel checks each. No condition. -/
namespace Go.Proofs.YtjbeembbnkmpeaaDoor
open Sh
set_option linter.unusedVariables false
set_option maxRecDepth 100000

def C208 (ranges1 : Slc) (r2 : Int) (w : World) (R : Bool → World → Prop) : Prop :=
  Calls Tryd.prog 208 #[Slc.v ranges1, .int .u16 r2] w fun e w' => ∃ r0 : Bool, e = .returned (.bool r0) ∧ R r0 w'
theorem C208.mono {ranges1 : Slc} {r2 : Int} {w : World} {R R' : Bool → World → Prop} (h : C208 ranges1 r2 w R) (hr : ∀ r0 w', R r0 w' → R' r0 w') : C208 ranges1 r2 w R' :=
  Calls.mono h fun _ _ ⟨r0, he, hR⟩ => ⟨r0, he, hr _ _ hR⟩
def C209 (ranges1 : Slc) (r2 : Int) (w : World) (R : Bool → World → Prop) : Prop :=
  Calls Tryd.prog 209 #[Slc.v ranges1, .int .u32 r2] w fun e w' => ∃ r0 : Bool, e = .returned (.bool r0) ∧ R r0 w'
theorem C209.mono {ranges1 : Slc} {r2 : Int} {w : World} {R R' : Bool → World → Prop} (h : C209 ranges1 r2 w R) (hr : ∀ r0 w', R r0 w' → R' r0 w') : C209 ranges1 r2 w R' :=
  Calls.mono h fun _ _ ⟨r0, he, hR⟩ => ⟨r0, he, hr _ _ hR⟩
def C203 (rangeTab1 : Option Addr) (r2 : Int) (w : World) (R : Bool → World → Prop) : Prop :=
  Calls Tryd.prog 203 #[.pointer rangeTab1, .int .i32 r2] w fun e w' => ∃ r0 : Bool, e = .returned (.bool r0) ∧ R r0 w'
theorem C203.mono {rangeTab1 : Option Addr} {r2 : Int} {w : World} {R R' : Bool → World → Prop} (h : C203 rangeTab1 r2 w R) (hr : ∀ r0 w', R r0 w' → R' r0 w') : C203 rangeTab1 r2 w R' :=
  Calls.mono h fun _ _ ⟨r0, he, hR⟩ => ⟨r0, he, hr _ _ hR⟩
def C187 (r1 : Int) (w : World) (R : Bool → World → Prop) : Prop :=
  Calls Tryd.prog 187 #[.int .i32 r1] w fun e w' => ∃ r0 : Bool, e = .returned (.bool r0) ∧ R r0 w'
theorem C187.mono {r1 : Int} {w : World} {R R' : Bool → World → Prop} (h : C187 r1 w R) (hr : ∀ r0 w', R r0 w' → R' r0 w') : C187 r1 w R' :=
  Calls.mono h fun _ _ ⟨r0, he, hR⟩ => ⟨r0, he, hr _ _ hR⟩
def C186 (s1 : ByteArray) (f2 : Value) (w : World) (R : Slc → World → Prop) : Prop :=
  Calls Tryd.prog 186 #[.string s1, f2] w fun e w' => ∃ r0 : Slc, e = .returned (Slc.v r0) ∧ R r0 w'
theorem C186.mono {s1 : ByteArray} {f2 : Value} {w : World} {R R' : Slc → World → Prop} (h : C186 s1 f2 w R) (hr : ∀ r0 w', R r0 w' → R' r0 w') : C186 s1 f2 w R' :=
  Calls.mono h fun _ _ ⟨r0, he, hR⟩ => ⟨r0, he, hr _ _ hR⟩
def C138 (s1 : ByteArray) (w : World) (R : Slc → World → Prop) : Prop :=
  Calls Tryd.prog 138 #[.string s1] w fun e w' => ∃ r0 : Slc, e = .returned (Slc.v r0) ∧ R r0 w'
theorem C138.mono {s1 : ByteArray} {w : World} {R R' : Slc → World → Prop} (h : C138 s1 w R) (hr : ∀ r0 w', R r0 w' → R' r0 w') : C138 s1 w R' :=
  Calls.mono h fun _ _ ⟨r0, he, hR⟩ => ⟨r0, he, hr _ _ hR⟩
def C190 (s1 : Slc) (v2 : ByteArray) (w : World) (R : Int → World → Prop) : Prop :=
  Calls Tryd.prog 190 #[Slc.v s1, .string v2] w fun e w' => ∃ r0 : Int, e = .returned (.int .i64 r0) ∧ R r0 w'
theorem C190.mono {s1 : Slc} {v2 : ByteArray} {w : World} {R R' : Int → World → Prop} (h : C190 s1 v2 w R) (hr : ∀ r0 w', R r0 w' → R' r0 w') : C190 s1 v2 w R' :=
  Calls.mono h fun _ _ ⟨r0, he, hR⟩ => ⟨r0, he, hr _ _ hR⟩
def C140 (s1 : Slc) (v2 : ByteArray) (w : World) (R : Bool → World → Prop) : Prop :=
  Calls Tryd.prog 140 #[Slc.v s1, .string v2] w fun e w' => ∃ r0 : Bool, e = .returned (.bool r0) ∧ R r0 w'
theorem C140.mono {s1 : Slc} {v2 : ByteArray} {w : World} {R R' : Bool → World → Prop} (h : C140 s1 v2 w R) (hr : ∀ r0 w', R r0 w' → R' r0 w') : C140 s1 v2 w R' :=
  Calls.mono h fun _ _ ⟨r0, he, hR⟩ => ⟨r0, he, hr _ _ hR⟩
def C141 (name1 : ByteArray) (w : World) (R : ByteArray → World → Prop) : Prop :=
  Calls Tryd.prog 141 #[.string name1] w fun e w' => ∃ r0 : ByteArray, e = .returned (.string r0) ∧ R r0 w'
theorem C141.mono {name1 : ByteArray} {w : World} {R R' : ByteArray → World → Prop} (h : C141 name1 w R) (hr : ∀ r0 w', R r0 w' → R' r0 w') : C141 name1 w R' :=
  Calls.mono h fun _ _ ⟨r0, he, hR⟩ => ⟨r0, he, hr _ _ hR⟩
def C142 (letter1 : Int) (kind2 : Int) (w : World) (R : Bool → World → Prop) : Prop :=
  Calls Tryd.prog 142 #[.int .i32 letter1, .int .i64 kind2] w fun e w' => ∃ r0 : Bool, e = .returned (.bool r0) ∧ R r0 w'
theorem C142.mono {letter1 : Int} {kind2 : Int} {w : World} {R R' : Bool → World → Prop} (h : C142 letter1 kind2 w R) (hr : ∀ r0 w', R r0 w' → R' r0 w') : C142 letter1 kind2 w R' :=
  Calls.mono h fun _ _ ⟨r0, he, hR⟩ => ⟨r0, he, hr _ _ hR⟩
def C80 (o1 : ByteArray × Slc × ByteArray) (w : World) (R : Int → World → Prop) : Prop :=
  Calls Tryd.prog 80 #[.agg #[.string o1.1, Slc.v o1.2.1, .string o1.2.2]] w fun e w' => ∃ r0 : Int, e = .returned (.int .i64 r0) ∧ R r0 w'
theorem C80.mono {o1 : ByteArray × Slc × ByteArray} {w : World} {R R' : Int → World → Prop} (h : C80 o1 w R) (hr : ∀ r0 w', R r0 w' → R' r0 w') : C80 o1 w R' :=
  Calls.mono h fun _ _ ⟨r0, he, hR⟩ => ⟨r0, he, hr _ _ hR⟩
def C104 (name1 : ByteArray) (w : World) (R : ByteArray → World → Prop) : Prop :=
  Calls Tryd.prog 104 #[.string name1] w fun e w' => ∃ r0 : ByteArray, e = .returned (.string r0) ∧ R r0 w'
theorem C104.mono {name1 : ByteArray} {w : World} {R R' : ByteArray → World → Prop} (h : C104 name1 w R) (hr : ∀ r0 w', R r0 w' → R' r0 w') : C104 name1 w R' :=
  Calls.mono h fun _ _ ⟨r0, he, hR⟩ => ⟨r0, he, hr _ _ hR⟩
def C105 (o1 : Int × Int × Int × ByteArray × Slc × Slc) (c2 : Int) (w : World) (R : Bool → World → Prop) : Prop :=
  Calls Tryd.prog 105 #[.agg #[.int .i64 (o1.1), .int .i64 (o1.2.1), .int .i64 (o1.2.2.1), .string o1.2.2.2.1, Slc.v o1.2.2.2.2.1, Slc.v o1.2.2.2.2.2], .int .u8 c2] w fun e w' => ∃ r0 : Bool, e = .returned (.bool r0) ∧ R r0 w'
theorem C105.mono {o1 : Int × Int × Int × ByteArray × Slc × Slc} {c2 : Int} {w : World} {R R' : Bool → World → Prop} (h : C105 o1 c2 w R) (hr : ∀ r0 w', R r0 w' → R' r0 w') : C105 o1 c2 w R' :=
  Calls.mono h fun _ _ ⟨r0, he, hR⟩ => ⟨r0, he, hr _ _ hR⟩
def C43 (o1 : ByteArray × Slc × ByteArray) (w : World) (R : Int → World → Prop) : Prop :=
  Calls Tryd.prog 43 #[.agg #[.string o1.1, Slc.v o1.2.1, .string o1.2.2]] w fun e w' => ∃ r0 : Int, e = .returned (.int .i64 r0) ∧ R r0 w'
theorem C43.mono {o1 : ByteArray × Slc × ByteArray} {w : World} {R R' : Int → World → Prop} (h : C43 o1 w R) (hr : ∀ r0 w', R r0 w' → R' r0 w') : C43 o1 w R' :=
  Calls.mono h fun _ _ ⟨r0, he, hR⟩ => ⟨r0, he, hr _ _ hR⟩

def S208L1 (ranges1 : Slc) (r2 : Int) (R : Bool → World → Prop) (I35 : Int → World → Prop) (s33 : Int) (vw34 : World) : Prop :=
  Br (decide (s33 < ((ranges1.len : Nat) : Int))) (0 ≤ s33 ∧ s33 < (ranges1.len : Nat) ∧ Nn ranges1.p fun a36 =>
    Nn (some (a36.add ((s33).toNat * 3))) fun a37 =>
    Ld vw34 a37 (Value.int .u16) fun (x38 : Int) =>
    Br (decide (r2 < x38)) (R false vw34) (Nn (some (a36.add ((s33).toNat * 3))) fun a39 =>
      Ld vw34 (a39.add 1) (Value.int .u16) fun (x40 : Int) =>
      Br (decide (r2 ≤ x40)) (Nn (some (a36.add ((s33).toNat * 3))) fun a41 =>
        Ld vw34.drew (a41.add 2) (Value.int .u16) fun (x42 : Int) =>
        Br (x42 == 1) (R true vw34.drew) (Nn (some (a36.add ((s33).toNat * 3))) fun a43 =>
          Ld vw34.drew a43 (Value.int .u16) fun (x44 : Int) =>
          Nn (some (a36.add ((s33).toNat * 3))) fun a45 =>
          Ld vw34.drew (a45.add 2) (Value.int .u16) fun (x46 : Int) =>
          x46 ≠ 0 ∧ R ((Int.tmod (IntKind.u16.wrap (r2 - x44)) x46) == 0) vw34.drew)) (I35 (IntKind.i64.wrap (s33 + 1)) vw34))) (R false vw34)
def S208L2 (ranges1 : Slc) (r2 : Int) (R : Bool → World → Prop) (I49 : Int → World → Prop) (s47 : Int) (vw48 : World) : Prop :=
  Br (decide (s47 < ((ranges1.len : Nat) : Int))) (0 ≤ s47 ∧ s47 < (ranges1.len : Nat) ∧ Nn ranges1.p fun a50 =>
    Nn (some (a50.add ((s47).toNat * 3))) fun a51 =>
    Ld vw48 a51 (Value.int .u16) fun (x52 : Int) =>
    Br (decide (r2 < x52)) (R false vw48) (Nn (some (a50.add ((s47).toNat * 3))) fun a53 =>
      Ld vw48 (a53.add 1) (Value.int .u16) fun (x54 : Int) =>
      Br (decide (r2 ≤ x54)) (Nn (some (a50.add ((s47).toNat * 3))) fun a55 =>
        Ld vw48.drew (a55.add 2) (Value.int .u16) fun (x56 : Int) =>
        Br (x56 == 1) (R true vw48.drew) (Nn (some (a50.add ((s47).toNat * 3))) fun a57 =>
          Ld vw48.drew a57 (Value.int .u16) fun (x58 : Int) =>
          Nn (some (a50.add ((s47).toNat * 3))) fun a59 =>
          Ld vw48.drew (a59.add 2) (Value.int .u16) fun (x60 : Int) =>
          x60 ≠ 0 ∧ R ((Int.tmod (IntKind.u16.wrap (r2 - x58)) x60) == 0) vw48.drew)) (I49 (IntKind.i64.wrap (s47 + 1)) vw48))) (R false vw48)
def S208L3 (ranges1 : Slc) (r2 : Int) (R : Bool → World → Prop) (I63 : (Int × Int) → World → Prop) (s61 : Int × Int) (vw62 : World) : Prop :=
  Br (decide (s61.1 < s61.2)) (0 ≤ (IntKind.i64.wrap (Int.fdiv (IntKind.u64.wrap (IntKind.i64.wrap (s61.1 + s61.2))) (2 ^ 1))) ∧ (IntKind.i64.wrap (Int.fdiv (IntKind.u64.wrap (IntKind.i64.wrap (s61.1 + s61.2))) (2 ^ 1))) < (ranges1.len : Nat) ∧ Nn ranges1.p fun a64 =>
    Nn (some (a64.add ((IntKind.i64.wrap (Int.fdiv (IntKind.u64.wrap (IntKind.i64.wrap (s61.1 + s61.2))) (2 ^ 1))).toNat * 3))) fun a75 =>
    Ld vw62 a75 (Value.int .u16) fun (x76 : Int) =>
    Br (decide (x76 ≤ r2)) (Nn (some (a64.add ((IntKind.i64.wrap (Int.fdiv (IntKind.u64.wrap (IntKind.i64.wrap (s61.1 + s61.2))) (2 ^ 1))).toNat * 3))) fun a77 =>
      Ld vw62 (a77.add 1) (Value.int .u16) fun (x78 : Int) =>
      Br (decide (r2 ≤ x78)) (Nn (some (a64.add ((IntKind.i64.wrap (Int.fdiv (IntKind.u64.wrap (IntKind.i64.wrap (s61.1 + s61.2))) (2 ^ 1))).toNat * 3))) fun a79 =>
        Ld vw62.drew (a79.add 2) (Value.int .u16) fun (x80 : Int) =>
        Br (x80 == 1) (R true vw62.drew) (Nn (some (a64.add ((IntKind.i64.wrap (Int.fdiv (IntKind.u64.wrap (IntKind.i64.wrap (s61.1 + s61.2))) (2 ^ 1))).toNat * 3))) fun a81 =>
          Ld vw62.drew a81 (Value.int .u16) fun (x82 : Int) =>
          Nn (some (a64.add ((IntKind.i64.wrap (Int.fdiv (IntKind.u64.wrap (IntKind.i64.wrap (s61.1 + s61.2))) (2 ^ 1))).toNat * 3))) fun a83 =>
          Ld vw62.drew (a83.add 2) (Value.int .u16) fun (x84 : Int) =>
          x84 ≠ 0 ∧ R ((Int.tmod (IntKind.u16.wrap (r2 - x82)) x84) == 0) vw62.drew)) (Nn (some (a64.add ((IntKind.i64.wrap (Int.fdiv (IntKind.u64.wrap (IntKind.i64.wrap (s61.1 + s61.2))) (2 ^ 1))).toNat * 3))) fun a85 =>
        Ld vw62 a85 (Value.int .u16) fun (x86 : Int) =>
        Br (decide (r2 < x86)) (I63 (s61.1, IntKind.i64.wrap (Int.fdiv (IntKind.u64.wrap (IntKind.i64.wrap (s61.1 + s61.2))) (2 ^ 1))) vw62) (Lt (IntKind.i64.wrap ((IntKind.i64.wrap (Int.fdiv (IntKind.u64.wrap (IntKind.i64.wrap (s61.1 + s61.2))) (2 ^ 1))) + 1)) fun (x87 : Int) =>
          I63 (x87, s61.2) vw62))) (Nn (some (a64.add ((IntKind.i64.wrap (Int.fdiv (IntKind.u64.wrap (IntKind.i64.wrap (s61.1 + s61.2))) (2 ^ 1))).toNat * 3))) fun a88 =>
      Ld vw62 a88 (Value.int .u16) fun (x89 : Int) =>
      Br (decide (r2 < x89)) (I63 (s61.1, IntKind.i64.wrap (Int.fdiv (IntKind.u64.wrap (IntKind.i64.wrap (s61.1 + s61.2))) (2 ^ 1))) vw62) (Lt (IntKind.i64.wrap ((IntKind.i64.wrap (Int.fdiv (IntKind.u64.wrap (IntKind.i64.wrap (s61.1 + s61.2))) (2 ^ 1))) + 1)) fun (x90 : Int) =>
        I63 (x90, s61.2) vw62))) (R false vw62)
/-- unicode.is16 -/
def S208 (ranges1 : Slc) (r2 : Int) (w : World) (R : Bool → World → Prop) : Prop :=
  Br (decide (((ranges1.len : Nat) : Int) ≤ 18)) (Lp (σ := Int) (S208L1 ranges1 r2 R) 0 w) (Br (decide (r2 ≤ 255)) (Lp (σ := Int) (S208L2 ranges1 r2 R) 0 w) (Lp (σ := Int × Int) (S208L3 ranges1 r2 R) (0, ((ranges1.len : Nat) : Int)) w))
def pl208 : Plan := (.seq (.reg .seq) (.seq (.seq (.reg .seq) (.cond (.seq (.seq (.reg .seq) (.block (.loop [(20, (.one (.int .i64)))] [0, 1, 19] (.seq (.reg .seq) (.seq (.cond .leaf .leaf) (.seq (.block (.seq (.reg .seq) (.seq (.reg .seq) (.seq (.seq (.reg .seq) (.cond (.seq (.reg .seq) .leaf) .leaf)) (.seq (.reg .seq) (.cond (.seq (.reg .still) .leaf) .leaf)))))) (.reg .seq))))))) (.seq (.reg .seq) .leaf)) .leaf)) (.seq (.reg .seq) (.seq (.reg .seq) (.seq (.block (.loop [(7, (.one (.int .i64))), (8, (.one (.int .i64)))] [0, 1] (.seq (.seq (.reg .seq) (.cond .leaf .leaf)) (.block (.seq (.reg .seq) (.seq (.reg .seq) (.seq (.seq (.reg .seq) (.cond (.seq (.reg .still) .leaf) .leaf)) (.seq (.reg .seq) (.cond (.reg .seq) (.reg .seq)))))))))) (.seq (.reg .seq) .leaf))))))
set_option maxRecDepth 100000 in
theorem T208 (ranges1 : Slc) (r2 : Int) (w : World) (R : Bool → World → Prop) (h : S208 ranges1 r2 w R) : C208 ranges1 r2 w R := by
  have e : fnT Tryd.prog ⟨FF, MAY, (fun _ _ => False)⟩ pl208 Tryd.f208 [Slc.v ranges1, .int .u16 r2] w [(.one .bool)] (fun s w => R s w) = S208 ranges1 r2 w R := by kernel_rfl
  exact (fn_calls okF okM Tryd.func208 (by kernel_rfl) (by kernel_rfl) (e.mpr h)).mono fun _ _ ⟨s, he, hR⟩ => ⟨s, he, hR⟩

def S209L1 (ranges1 : Slc) (r2 : Int) (R : Bool → World → Prop) (I21 : Int → World → Prop) (s19 : Int) (vw20 : World) : Prop :=
  Br (decide (s19 < ((ranges1.len : Nat) : Int))) (0 ≤ s19 ∧ s19 < (ranges1.len : Nat) ∧ Nn ranges1.p fun a22 =>
    Nn (some (a22.add ((s19).toNat * 3))) fun a23 =>
    Ld vw20 a23 (Value.int .u32) fun (x24 : Int) =>
    Br (decide (r2 < x24)) (R false vw20) (Nn (some (a22.add ((s19).toNat * 3))) fun a25 =>
      Ld vw20 (a25.add 1) (Value.int .u32) fun (x26 : Int) =>
      Br (decide (r2 ≤ x26)) (Nn (some (a22.add ((s19).toNat * 3))) fun a27 =>
        Ld vw20.drew (a27.add 2) (Value.int .u32) fun (x28 : Int) =>
        Br (x28 == 1) (R true vw20.drew) (Nn (some (a22.add ((s19).toNat * 3))) fun a29 =>
          Ld vw20.drew a29 (Value.int .u32) fun (x30 : Int) =>
          Nn (some (a22.add ((s19).toNat * 3))) fun a31 =>
          Ld vw20.drew (a31.add 2) (Value.int .u32) fun (x32 : Int) =>
          x32 ≠ 0 ∧ R ((Int.tmod (IntKind.u32.wrap (r2 - x30)) x32) == 0) vw20.drew)) (I21 (IntKind.i64.wrap (s19 + 1)) vw20))) (R false vw20)
def S209L2 (ranges1 : Slc) (r2 : Int) (R : Bool → World → Prop) (I35 : (Int × Int) → World → Prop) (s33 : Int × Int) (vw34 : World) : Prop :=
  Br (decide (s33.1 < s33.2)) (0 ≤ (IntKind.i64.wrap (Int.fdiv (IntKind.u64.wrap (IntKind.i64.wrap (s33.1 + s33.2))) (2 ^ 1))) ∧ (IntKind.i64.wrap (Int.fdiv (IntKind.u64.wrap (IntKind.i64.wrap (s33.1 + s33.2))) (2 ^ 1))) < (ranges1.len : Nat) ∧ Nn ranges1.p fun a36 =>
    Ld vw34 (a36.add ((IntKind.i64.wrap (Int.fdiv (IntKind.u64.wrap (IntKind.i64.wrap (s33.1 + s33.2))) (2 ^ 1))).toNat * 3)) (Value.int .u32) fun (x37 : Int) =>
    Ld vw34 ((a36.add ((IntKind.i64.wrap (Int.fdiv (IntKind.u64.wrap (IntKind.i64.wrap (s33.1 + s33.2))) (2 ^ 1))).toNat * 3)).add 1) (Value.int .u32) fun (x38 : Int) =>
    Ld vw34 ((a36.add ((IntKind.i64.wrap (Int.fdiv (IntKind.u64.wrap (IntKind.i64.wrap (s33.1 + s33.2))) (2 ^ 1))).toNat * 3)).add 2) (Value.int .u32) fun (x39 : Int) =>
    Nw vw34 (.cells #[.int .u32 0, .int .u32 0, .int .u32 0] 289) fun vw40 =>
    St vw40 (⟨vw34.heap.size, 0, none⟩ : Addr) (.int .u32 x37) fun vw41 =>
    St vw41 ((⟨vw34.heap.size, 0, none⟩ : Addr).add 1) (.int .u32 x38) fun vw42 =>
    St vw42 ((⟨vw34.heap.size, 0, none⟩ : Addr).add 2) (.int .u32 x39) fun vw43 =>
    Ld vw43 (⟨vw34.heap.size, 0, none⟩ : Addr) (Value.int .u32) fun (x49 : Int) =>
    Br (decide (x49 ≤ r2)) (Ld vw43 ((⟨vw34.heap.size, 0, none⟩ : Addr).add 1) (Value.int .u32) fun (x50 : Int) =>
      Br (decide (r2 ≤ x50)) (Ld vw43 ((⟨vw34.heap.size, 0, none⟩ : Addr).add 2) (Value.int .u32) fun (x51 : Int) =>
        Br (x51 == 1) (R true vw43) (Ld vw43 (⟨vw34.heap.size, 0, none⟩ : Addr) (Value.int .u32) fun (x52 : Int) =>
          Ld vw43 ((⟨vw34.heap.size, 0, none⟩ : Addr).add 2) (Value.int .u32) fun (x53 : Int) =>
          x53 ≠ 0 ∧ R ((Int.tmod (IntKind.u32.wrap (r2 - x52)) x53) == 0) vw43)) (Ld vw43 (⟨vw34.heap.size, 0, none⟩ : Addr) (Value.int .u32) fun (x54 : Int) =>
        Br (decide (r2 < x54)) (I35 (s33.1, IntKind.i64.wrap (Int.fdiv (IntKind.u64.wrap (IntKind.i64.wrap (s33.1 + s33.2))) (2 ^ 1))) vw43) (Lt (IntKind.i64.wrap ((IntKind.i64.wrap (Int.fdiv (IntKind.u64.wrap (IntKind.i64.wrap (s33.1 + s33.2))) (2 ^ 1))) + 1)) fun (x55 : Int) =>
          I35 (x55, s33.2) vw43))) (Ld vw43 (⟨vw34.heap.size, 0, none⟩ : Addr) (Value.int .u32) fun (x56 : Int) =>
      Br (decide (r2 < x56)) (I35 (s33.1, IntKind.i64.wrap (Int.fdiv (IntKind.u64.wrap (IntKind.i64.wrap (s33.1 + s33.2))) (2 ^ 1))) vw43) (Lt (IntKind.i64.wrap ((IntKind.i64.wrap (Int.fdiv (IntKind.u64.wrap (IntKind.i64.wrap (s33.1 + s33.2))) (2 ^ 1))) + 1)) fun (x57 : Int) =>
        I35 (x57, s33.2) vw43))) (R false vw34)
/-- unicode.is32 -/
def S209 (ranges1 : Slc) (r2 : Int) (w : World) (R : Bool → World → Prop) : Prop :=
  Br (decide (((ranges1.len : Nat) : Int) ≤ 18)) (Lp (σ := Int) (S209L1 ranges1 r2 R) 0 w) (Lp (σ := Int × Int) (S209L2 ranges1 r2 R) (0, ((ranges1.len : Nat) : Int)) w)
def pl209 : Plan := (.seq (.reg .seq) (.seq (.seq (.reg .seq) (.cond (.seq (.seq (.reg .seq) (.block (.loop [(16, (.one (.int .i64)))] [0, 1, 15] (.seq (.reg .seq) (.seq (.cond .leaf .leaf) (.seq (.block (.seq (.reg .seq) (.seq (.reg .seq) (.seq (.seq (.reg .seq) (.cond (.seq (.reg .seq) .leaf) .leaf)) (.seq (.reg .seq) (.cond (.seq (.reg .still) .leaf) .leaf)))))) (.reg .seq))))))) (.seq (.reg .seq) .leaf)) .leaf)) (.seq (.reg .seq) (.seq (.reg .seq) (.seq (.block (.loop [(7, (.one (.int .i64))), (8, (.one (.int .i64)))] [0, 1] (.seq (.seq (.reg .seq) (.cond .leaf .leaf)) (.block (.seq (.reg .seq) (.seq (.reg .seq) (.seq (.seq (.reg .seq) (.cond (.seq (.reg .seq) .leaf) .leaf)) (.seq (.reg .seq) (.cond (.reg .seq) (.reg .seq)))))))))) (.seq (.reg .seq) .leaf))))))
set_option maxRecDepth 100000 in
theorem T209 (ranges1 : Slc) (r2 : Int) (w : World) (R : Bool → World → Prop) (h : S209 ranges1 r2 w R) : C209 ranges1 r2 w R := by
  have e : fnT Tryd.prog ⟨FF, MAY, (fun _ _ => False)⟩ pl209 Tryd.f209 [Slc.v ranges1, .int .u32 r2] w [(.one .bool)] (fun s w => R s w) = S209 ranges1 r2 w R := by kernel_rfl
  exact (fn_calls okF okM Tryd.func209 (by kernel_rfl) (by kernel_rfl) (e.mpr h)).mono fun _ _ ⟨s, he, hR⟩ => ⟨s, he, hR⟩

/-- unicode.isExcludingLatin -/
def S203 (rangeTab1 : Option Addr) (r2 : Int) (w : World) (R : Bool → World → Prop) : Prop :=
  Nn rangeTab1 fun a3 =>
  Ld w a3 Slc.v fun (x4 : Slc) =>
  Nn rangeTab1 fun a11 =>
  Ld w (a11.add 2) (Value.int .i64) fun (x12 : Int) =>
  Br (decide (((x4.len : Nat) : Int) > x12)) (0 ≤ (IntKind.i64.wrap (((x4.len : Nat) : Int) - 1)) ∧ (IntKind.i64.wrap (((x4.len : Nat) : Int) - 1)) < (x4.len : Nat) ∧ Nn x4.p fun a13 =>
    Ld w ((a13.add ((IntKind.i64.wrap (((x4.len : Nat) : Int) - 1)).toNat * 3)).add 1) (Value.int .u16) fun (x14 : Int) =>
    Br (decide ((IntKind.u32.wrap r2) ≤ (IntKind.u32.wrap x14))) (0 ≤ x12 ∧ x12 ≤ ((x4.len : Nat) : Int) ∧ C208 (x4.cut 3 ((x12).toNat) x4.len x4.cap) (IntKind.u16.wrap r2) w fun r15 vw16 =>
        R r15 vw16) (Nn rangeTab1 fun a17 =>
      Ld w (a17.add 1) Slc.v fun (x18 : Slc) =>
      Br (decide (((x18.len : Nat) : Int) > 0)) (0 ≤ (0 : Int) ∧ (0 : Int) < (x18.len : Nat) ∧ Nn x18.p fun a19 =>
        Ld w (a19.add (((0 : Int)).toNat * 3)) (Value.int .u32) fun (x20 : Int) =>
        Br (decide (r2 ≥ (IntKind.i32.wrap x20))) (C209 x18 (IntKind.u32.wrap r2) w fun r21 vw22 =>
            R r21 vw22) (R false w)) (R false w))) (Nn rangeTab1 fun a23 =>
    Ld w (a23.add 1) Slc.v fun (x24 : Slc) =>
    Br (decide (((x24.len : Nat) : Int) > 0)) (0 ≤ (0 : Int) ∧ (0 : Int) < (x24.len : Nat) ∧ Nn x24.p fun a25 =>
      Ld w (a25.add (((0 : Int)).toNat * 3)) (Value.int .u32) fun (x26 : Int) =>
      Br (decide (r2 ≥ (IntKind.i32.wrap x26))) (C209 x24 (IntKind.u32.wrap r2) w fun r27 vw28 =>
          R r27 vw28) (R false w)) (R false w))
def pl203 : Plan := (.seq (.reg .seq) (.seq (.reg .seq) (.seq (.seq (.reg .seq) (.seq (.reg .seq) (.cond (.seq (.reg .seq) .leaf) .leaf))) (.seq (.reg .seq) (.seq (.seq (.reg .seq) (.cond (.seq (.reg .seq) .leaf) .leaf)) (.seq (.reg .seq) .leaf))))))
set_option maxRecDepth 100000 in
theorem T203 (rangeTab1 : Option Addr) (r2 : Int) (w : World) (R : Bool → World → Prop) (h : S203 rangeTab1 r2 w R) : C203 rangeTab1 r2 w R := by
  have e : fnT Tryd.prog ⟨FF, MAY, (fun _ _ => False)⟩ pl203 Tryd.f203 [.pointer rangeTab1, .int .i32 r2] w [(.one .bool)] (fun s w => R s w) = S203 rangeTab1 r2 w R := by kernel_rfl
  exact (fn_calls okF okM Tryd.func203 (by kernel_rfl) (by kernel_rfl) (e.mpr h)).mono fun _ _ ⟨s, he, hR⟩ => ⟨s, he, hR⟩

/-- unicode.IsSpace -/
def S187 (r1 : Int) (w : World) (R : Bool → World → Prop) : Prop :=
  Br (decide ((IntKind.u32.wrap r1) ≤ 255)) (Br (r1 == 9) (Br (r1 == 9) (R true w) (R false w)) (Br (r1 == 10) (Br (r1 == 10) (R true w) (R false w)) (Br (r1 == 11) (Br (r1 == 11) (R true w) (R false w)) (Br (r1 == 12) (Br (r1 == 12) (R true w) (R false w)) (Br (r1 == 13) (Br (r1 == 13) (R true w) (R false w)) (Br (r1 == 32) (Br (r1 == 32) (R true w) (R false w)) (Br (r1 == 133) (Br (r1 == 133) (R true w) (R false w)) (Br (r1 == 160) (R true w) (R false w))))))))) (Ld w (⟨4, 0, none⟩ : Addr) Value.pointer fun (x2 : Option Addr) =>
    C203 x2 r1 w fun r3 vw4 =>
      R r3 vw4)
def pl187 : Plan := (.seq (.reg .seq) (.seq (.seq (.reg .seq) (.cond (.seq (.seq (.reg .seq) (.block (.seq (.seq (.reg .seq) (.cond .leaf (.seq (.reg .seq) (.cond .leaf (.seq (.reg .seq) (.cond .leaf (.seq (.reg .seq) (.cond .leaf (.seq (.reg .seq) (.cond .leaf (.seq (.reg .seq) (.cond .leaf (.seq (.reg .seq) (.cond .leaf (.reg .seq))))))))))))))) (.cond (.seq (.reg .seq) .leaf) .leaf)))) (.seq (.reg .seq) .leaf)) .leaf)) (.seq (.reg .seq) .leaf)))
set_option maxRecDepth 100000 in
theorem T187 (r1 : Int) (w : World) (R : Bool → World → Prop) (h : S187 r1 w R) : C187 r1 w R := by
  have e : fnT Tryd.prog ⟨FF, MAY, (fun _ _ => False)⟩ pl187 Tryd.f187 [.int .i32 r1] w [(.one .bool)] (fun s w => R s w) = S187 r1 w R := by kernel_rfl
  exact (fn_calls okF okM Tryd.func187 (by kernel_rfl) (by kernel_rfl) (e.mpr h)).mono fun _ _ ⟨s, he, hR⟩ => ⟨s, he, hR⟩

def S186_F187L1 (s1 : ByteArray) (s32 : Slc) (x34 : Slc) (R : Slc → World → Prop) (I38 : Int → World → Prop) (s36 : Int) (vw37 : World) : Prop :=
  Br (decide (s36 < ((s32.len : Nat) : Int))) (0 ≤ s36 ∧ s36 < (s32.len : Nat) ∧ Nn s32.p fun a39 =>
    Ld vw37 (a39.add ((s36).toNat * 2)) (Value.int .i64) fun (x40 : Int) =>
    Ld vw37 ((a39.add ((s36).toNat * 2)).add 1) (Value.int .i64) fun (x41 : Int) =>
    Nw vw37 (.cells #[.int .i64 0, .int .i64 0] 274) fun vw42 =>
    St vw42 (⟨vw37.heap.size, 0, none⟩ : Addr) (.int .i64 x40) fun vw43 =>
    St vw43 ((⟨vw37.heap.size, 0, none⟩ : Addr).add 1) (.int .i64 x41) fun vw44 =>
    Ld vw44 (⟨vw37.heap.size, 0, none⟩ : Addr) (Value.int .i64) fun (x45 : Int) =>
    Ld vw44 ((⟨vw37.heap.size, 0, none⟩ : Addr).add 1) (Value.int .i64) fun (x46 : Int) =>
    0 ≤ x46 ∧ x46 ≤ (((s1).size : Nat) : Int) ∧ 0 ≤ x45 ∧ x45 ≤ (((x46).toNat : Nat) : Int) ∧ 0 ≤ s36 ∧ s36 < (x34.len : Nat) ∧ Nn x34.p fun a47 =>
    St vw44 (a47.add ((s36).toNat * 1)) (.string (s1.extract ((x45).toNat) ((x46).toNat))) fun vw48 =>
    I38 (IntKind.i64.wrap (s36 + 1)) vw48) (R x34 vw37)
def S186_F187J1 (s1 : ByteArray) (R : Slc → World → Prop) (s32 : Slc) (vw33 : World) : Prop :=
  Rn Tryd.prog (Instr.makeSlice 31 (.int .i64 ((s32.len : Nat) : Int)) (.int .i64 ((s32.len : Nat) : Int))) vw33 Slc.v fun (x34 : Slc) vw35 =>
  Lp (σ := Int) (S186_F187L1 s1 s32 x34 R) 0 vw35
def S186_F187L2 (s1 : ByteArray) (vw4 : World) (R : Slc → World → Prop) (I20 : (Slc × Int) → World → Prop) (s18 : Slc × Int) (vw19 : World) : Prop :=
  Nx vw19 (⟨vw4.heap.size, 0, none⟩ : Addr) (fun (i21 : Int) (ch22 : Int) (vw23 : World) =>
    C187 ch22 vw23 fun r24 vw25 =>
      Br r24 (Br (decide (s18.2 ≥ 0)) (Nw vw25 (.cells #[.int .i64 (s18.2), .int .i64 i21] 274) fun vw26 =>
          Rn Tryd.prog (Builtin.append_ #[272, 272] 272 #[Slc.v s18.1, Slc.v ((⟨some ⟨vw25.heap.size, 0, none⟩, 1, 1⟩ : Slc))]) vw26 Slc.v fun (x27 : Slc) vw28 =>
          I20 (x27, ixor .i64 (-1) s18.2) vw28) (I20 (s18.1, s18.2) vw25)) (Br (decide (s18.2 < 0)) (I20 (s18.1, i21) vw25) (I20 (s18.1, s18.2) vw25))) (Join (S186_F187J1 s1 R) fun (vJ49 : Slc → World → Prop) =>
      Br (decide (s18.2 ≥ 0)) (Nw vw19 (.cells #[.int .i64 (s18.2), .int .i64 (((s1).size : Nat) : Int)] 274) fun vw50 =>
        Rn Tryd.prog (Builtin.append_ #[272, 272] 272 #[Slc.v s18.1, Slc.v ((⟨some ⟨vw19.heap.size, 0, none⟩, 1, 1⟩ : Slc))]) vw50 Slc.v fun (x51 : Slc) vw52 =>
        vJ49 x51 vw52) (vJ49 s18.1 vw19))
/-- strings.FieldsFunc -/
def S186_F187 (s1 : ByteArray) (w : World) (R : Slc → World → Prop) : Prop :=
  Rn Tryd.prog (Instr.makeSlice 272 (.int .i64 0) (.int .i64 32)) w Slc.v fun (x3 : Slc) vw4 =>
  Nw vw4 (.stringIter s1 0) fun vw17 =>
  Lp (σ := Slc × Int) (S186_F187L2 s1 vw4 R) (x3, (-1)) vw17
def pl186_F187 : Plan := (.seq (.reg .seq) (.seq (.reg .seq) (.seq (.reg .seq) (.seq (.seq (.reg .seq) (.block (.loop [(5, (.one .slc)), (6, (.one (.int .i64)))] [0, 1, 14] (.seq (.reg .seq) (.seq (.cond .leaf .leaf) (.block (.seq (.reg .seq) (.seq (.reg .seq) (.cond (.seq (.reg .seq) (.cond (.seq (.reg .seq) (.reg .seq)) .leaf)) (.seq (.reg .seq) (.cond (.reg .seq) .leaf))))))))))) (.join [(5, (.one .slc))] [0] (.seq (.reg .seq) (.cond (.reg .seq) .leaf)) (.seq (.reg .seq) (.seq (.seq (.reg .seq) (.block (.loop [(49, (.one (.int .i64)))] [0, 9, 47, 48] (.seq (.reg .seq) (.seq (.cond .leaf .leaf) (.seq (.block (.seq (.reg .seq) (.reg .seq))) (.reg .seq))))))) (.seq (.reg .seq) .leaf))))))))
set_option maxRecDepth 100000 in
theorem T186_F187 (s1 : ByteArray) (w : World) (R : Slc → World → Prop) (h : S186_F187 s1 w R) : C186 s1 (.func (.func 187) #[] #[]) w R := by
  have e : fnT Tryd.prog ⟨FF, MAY, (fun _ _ => False)⟩ pl186_F187 Tryd.f186 [.string s1, .func (.func 187) #[] #[]] w [(.one .slc)] (fun s w => R s w) = S186_F187 s1 w R := by kernel_rfl
  exact (fn_calls okF okM Tryd.func186 (by kernel_rfl) (by kernel_rfl) (e.mpr h)).mono fun _ _ ⟨s, he, hR⟩ => ⟨s, he, hR⟩

def S138L1 (s1 : ByteArray) (s33 : Int × Int × Int) (I35 : (Int × Int × Int) → World → Prop) (I41 : Int → World → Prop) (s39 : Int) (vw40 : World) : Prop :=
  Br (decide (s39 < (((s1).size : Nat) : Int))) (0 ≤ s39 ∧ s39 < ((s1).size : Nat) ∧ 0 ≤ (bAt s1 s39) ∧ (bAt s1 s39) < (256 : Nat) ∧ Ld vw40 ((⟨1, 0, none⟩ : Addr).add ((bAt s1 s39).toNat * 1)) (Value.int .u8) fun (x42 : Int) =>
    Br (x42 != 0) (I41 (IntKind.i64.wrap (s39 + 1)) vw40) (I35 (IntKind.i64.wrap (s33.1 + 1), s39, s39) vw40)) (I35 (IntKind.i64.wrap (s33.1 + 1), s39, s39) vw40)
def S138L2 (s1 : ByteArray) (x14 : Slc) (R : Slc → World → Prop) (I35 : (Int × Int × Int) → World → Prop) (s33 : Int × Int × Int) (vw34 : World) : Prop :=
  Br (decide (s33.2.2 < (((s1).size : Nat) : Int))) (0 ≤ s33.2.2 ∧ s33.2.2 < ((s1).size : Nat) ∧ 0 ≤ (bAt s1 s33.2.2) ∧ (bAt s1 s33.2.2) < (256 : Nat) ∧ Ld vw34 ((⟨1, 0, none⟩ : Addr).add ((bAt s1 s33.2.2).toNat * 1)) (Value.int .u8) fun (x36 : Int) =>
    Br (x36 == 0) (I35 (s33.1, s33.2.1, IntKind.i64.wrap (s33.2.2 + 1)) vw34) (0 ≤ s33.2.2 ∧ s33.2.2 ≤ (((s1).size : Nat) : Int) ∧ 0 ≤ s33.2.1 ∧ s33.2.1 ≤ (((s33.2.2).toNat : Nat) : Int) ∧ 0 ≤ s33.1 ∧ s33.1 < (x14.len : Nat) ∧ Nn x14.p fun a37 =>
      St vw34 (a37.add ((s33.1).toNat * 1)) (.string (s1.extract ((s33.2.1).toNat) ((s33.2.2).toNat))) fun vw38 =>
      Lp (σ := Int) (S138L1 s1 s33 I35) (IntKind.i64.wrap (s33.2.2 + 1)) vw38)) (Br (decide (s33.2.1 < (((s1).size : Nat) : Int))) (0 ≤ s33.2.1 ∧ s33.2.1 ≤ (((s1).size : Nat) : Int) ∧ 0 ≤ s33.1 ∧ s33.1 < (x14.len : Nat) ∧ Nn x14.p fun a43 =>
      St vw34 (a43.add ((s33.1).toNat * 1)) (.string (s1.extract ((s33.2.1).toNat) ((s1).size))) fun vw44 =>
      R x14 vw44) (R x14 vw34))
def S138J1 (s1 : ByteArray) (x14 : Slc) (R : Slc → World → Prop) (s20 : Int) (vw21 : World) : Prop :=
  Lp (σ := Int × Int × Int) (S138L2 s1 x14 R) (0, s20, s20) vw21
def S138L3 (s1 : ByteArray) (vJ45 : Int → World → Prop) (I48 : Int → World → Prop) (s46 : Int) (vw47 : World) : Prop :=
  Br (decide (s46 < (((s1).size : Nat) : Int))) (0 ≤ s46 ∧ s46 < ((s1).size : Nat) ∧ 0 ≤ (bAt s1 s46) ∧ (bAt s1 s46) < (256 : Nat) ∧ Ld vw47 ((⟨1, 0, none⟩ : Addr).add ((bAt s1 s46).toNat * 1)) (Value.int .u8) fun (x49 : Int) =>
    Br (x49 != 0) (I48 (IntKind.i64.wrap (s46 + 1)) vw47) (vJ45 s46 vw47)) (vJ45 s46 vw47)
def S138L4 (s1 : ByteArray) (R : Slc → World → Prop) (I8 : (Int × Int × Int × Int) → World → Prop) (s6 : Int × Int × Int × Int) (vw7 : World) : Prop :=
  Br (decide (s6.2.2.2 < (((s1).size : Nat) : Int))) (0 ≤ s6.2.2.2 ∧ s6.2.2.2 < ((s1).size : Nat) ∧ 0 ≤ (bAt s1 s6.2.2.2) ∧ (bAt s1 s6.2.2.2) < (256 : Nat) ∧ Ld vw7 ((⟨1, 0, none⟩ : Addr).add ((bAt s1 s6.2.2.2).toNat * 1)) (Value.int .u8) fun (x9 : Int) =>
    I8 (IntKind.i64.wrap (s6.1 + (iand .i64 s6.2.1 (ixor .i64 (-1) (IntKind.i64.wrap x9)))), IntKind.i64.wrap x9, ior .u8 s6.2.2.1 (bAt s1 s6.2.2.2), IntKind.i64.wrap (s6.2.2.2 + 1)) vw7) (Br (decide (s6.2.2.1 ≥ 128)) (C186 s1 (.func (.func 187) #[] #[]) vw7 fun r12 vw13 =>
        R r12 vw13) (Rn Tryd.prog (Instr.makeSlice 31 (.int .i64 (s6.1)) (.int .i64 (s6.1))) vw7 Slc.v fun (x14 : Slc) vw15 =>
      Join (S138J1 s1 x14 R) fun (vJ45 : Int → World → Prop) =>
        Lp (σ := Int) (S138L3 s1 vJ45) 0 vw15))
/-- strings.Fields -/
def S138 (s1 : ByteArray) (w : World) (R : Slc → World → Prop) : Prop :=
  Lp (σ := Int × Int × Int × Int) (S138L4 s1 R) (0, 1, 0, 0) w
def pl138 : Plan := (.seq (.reg .seq) (.seq (.reg .seq) (.seq (.reg .seq) (.seq (.reg .seq) (.seq (.seq (.reg .seq) (.block (.loop [(3, (.one (.int .i64))), (4, (.one (.int .i64))), (5, (.one (.int .u8))), (6, (.one (.int .i64)))] [0] (.seq (.seq (.reg .seq) (.cond .leaf .leaf)) (.seq (.block (.seq (.reg .seq) (.seq (.reg .seq) (.seq (.reg .seq) (.seq (.reg .seq) (.reg .seq)))))) (.reg .seq)))))) (.seq (.seq (.reg .seq) (.cond (.seq (.reg .seq) .leaf) .leaf)) (.seq (.reg .seq) (.seq (.reg .seq) (.seq (.reg .seq) (.seq (.reg .seq) (.join [(12, (.one (.int .i64)))] [0, 9, 10] (.block (.loop [(12, (.one (.int .i64)))] [0, 9, 10] (.seq (.seq (.reg .seq) (.cond .leaf .leaf)) (.block (.reg .seq))))) (.seq (.reg .seq) (.seq (.block (.loop [(10, (.one (.int .i64))), (11, (.one (.int .i64))), (12, (.one (.int .i64)))] [0, 9] (.seq (.seq (.reg .seq) (.cond .leaf .leaf)) (.block (.seq (.seq (.reg .seq) (.cond (.seq (.reg .seq) .leaf) .leaf)) (.seq (.reg .seq) (.seq (.reg .seq) (.seq (.reg .seq) (.seq (.block (.loop [(12, (.one (.int .i64)))] [0, 9, 10] (.seq (.seq (.reg .seq) (.cond .leaf .leaf)) (.block (.reg .seq))))) (.reg .seq)))))))))) (.seq (.seq (.reg .seq) (.cond (.reg .seq) .leaf)) (.seq (.reg .seq) .leaf)))))))))))))))
set_option maxRecDepth 100000 in
theorem T138 (s1 : ByteArray) (w : World) (R : Slc → World → Prop) (h : S138 s1 w R) : C138 s1 w R := by
  have e : fnT Tryd.prog ⟨FF, MAY, (fun _ _ => False)⟩ pl138 Tryd.f138 [.string s1] w [(.one .slc)] (fun s w => R s w) = S138 s1 w R := by kernel_rfl
  exact (fn_calls okF okM Tryd.func138 (by kernel_rfl) (by kernel_rfl) (e.mpr h)).mono fun _ _ ⟨s, he, hR⟩ => ⟨s, he, hR⟩

def S190L1 (s1 : Slc) (v2 : ByteArray) (R : Int → World → Prop) (I5 : Int → World → Prop) (s3 : Int) (vw4 : World) : Prop :=
  Br (decide (s3 < ((s1.len : Nat) : Int))) (0 ≤ s3 ∧ s3 < (s1.len : Nat) ∧ Nn s1.p fun a6 =>
    Ld vw4 (a6.add ((s3).toNat * 1)) Value.string fun (x7 : ByteArray) =>
    Br (v2.toList == x7.toList) (R s3 vw4) (I5 (IntKind.i64.wrap (s3 + 1)) vw4)) (R (-1) vw4)
/-- slices.Index[[]string,string] -/
def S190 (s1 : Slc) (v2 : ByteArray) (w : World) (R : Int → World → Prop) : Prop :=
  Lp (σ := Int) (S190L1 s1 v2 R) 0 w
def pl190 : Plan := (.seq (.reg .seq) (.seq (.seq (.reg .seq) (.block (.loop [(8, (.one (.int .i64)))] [0, 1, 7] (.seq (.reg .seq) (.seq (.cond .leaf .leaf) (.seq (.block (.seq (.reg .seq) (.seq (.reg .seq) (.cond (.seq (.reg .seq) .leaf) .leaf)))) (.reg .seq))))))) (.seq (.reg .seq) .leaf)))
set_option maxRecDepth 100000 in
theorem T190 (s1 : Slc) (v2 : ByteArray) (w : World) (R : Int → World → Prop) (h : S190 s1 v2 w R) : C190 s1 v2 w R := by
  have e : fnT Tryd.prog ⟨FF, MAY, (fun _ _ => False)⟩ pl190 Tryd.f190 [Slc.v s1, .string v2] w [(.one (.int .i64))] (fun s w => R s w) = S190 s1 v2 w R := by kernel_rfl
  exact (fn_calls okF okM Tryd.func190 (by kernel_rfl) (by kernel_rfl) (e.mpr h)).mono fun _ _ ⟨s, he, hR⟩ => ⟨s, he, hR⟩

/-- slices.Contains[[]string,string] -/
def S140 (s1 : Slc) (v2 : ByteArray) (w : World) (R : Bool → World → Prop) : Prop :=
  C190 s1 v2 w fun r3 vw4 =>
    R (decide (r3 ≥ 0)) vw4
def pl140 : Plan := (.seq (.reg .seq) (.seq (.reg .seq) .leaf))
set_option maxRecDepth 100000 in
theorem T140 (s1 : Slc) (v2 : ByteArray) (w : World) (R : Bool → World → Prop) (h : S140 s1 v2 w R) : C140 s1 v2 w R := by
  have e : fnT Tryd.prog ⟨FF, MAY, (fun _ _ => False)⟩ pl140 Tryd.f140 [Slc.v s1, .string v2] w [(.one .bool)] (fun s w => R s w) = S140 s1 v2 w R := by kernel_rfl
  exact (fn_calls okF okM Tryd.func140 (by kernel_rfl) (by kernel_rfl) (e.mpr h)).mono fun _ _ ⟨s, he, hR⟩ => ⟨s, he, hR⟩

def S141L1 (name1 : ByteArray) (x31 : ByteArray) (x32 : ByteArray) (x33 : ByteArray) (x34 : ByteArray) (x35 : ByteArray) (x36 : ByteArray) (x37 : ByteArray) (x38 : ByteArray) (x39 : ByteArray) (x40 : ByteArray) (x41 : ByteArray) (x42 : ByteArray) (x43 : ByteArray) (x44 : ByteArray) (x45 : ByteArray) (x46 : ByteArray) (x47 : ByteArray) (x48 : ByteArray) (x49 : ByteArray) (x50 : ByteArray) (x51 : ByteArray) (x52 : ByteArray) (x53 : ByteArray) (x54 : ByteArray) (x55 : ByteArray) (x56 : ByteArray) (x57 : ByteArray) (x58 : ByteArray) (R : ByteArray → World → Prop) (I61 : Int → World → Prop) (s59 : Int) (vw60 : World) : Prop :=
  Br (decide (s59 < 14)) (0 ≤ s59 ∧ s59 < (14 : Nat) ∧ ∃ x62 : ByteArray × ByteArray, (#[.string x31, .string x32, .string x33, .string x34, .string x35, .string x36, .string x37, .string x38, .string x39, .string x40, .string x41, .string x42, .string x43, .string x44, .string x45, .string x46, .string x47, .string x48, .string x49, .string x50, .string x51, .string x52, .string x53, .string x54, .string x55, .string x56, .string x57, .string x58] : Array Value).extract ((s59).toNat * 2) ((s59).toNat * 2 + 2) = #[.string x62.1, .string x62.2] ∧ Nw vw60 (.cells #[.string ((⟨#[]⟩ : ByteArray)), .string ((⟨#[]⟩ : ByteArray))] 256) fun vw63 =>
    St vw63 (⟨vw60.heap.size, 0, none⟩ : Addr) (.string x62.1) fun vw64 =>
    St vw64 ((⟨vw60.heap.size, 0, none⟩ : Addr).add 1) (.string x62.2) fun vw65 =>
    Ld vw65 ((⟨vw60.heap.size, 0, none⟩ : Addr).add 1) Value.string fun (x66 : ByteArray) =>
    C138 x66 vw65 fun r67 vw68 =>
      C140 r67 name1 vw68 fun r69 vw70 =>
        Br r69 (Ld vw70 (⟨vw60.heap.size, 0, none⟩ : Addr) Value.string fun (x71 : ByteArray) =>
          R x71 vw70) (I61 (IntKind.i64.wrap (s59 + 1)) vw70)) (R (⟨#[63]⟩ : ByteArray) vw60)
/-- foliant/ops.Takes -/
def S141 (name1 : ByteArray) (w : World) (R : ByteArray → World → Prop) : Prop :=
  Nw w (.cells #[.string ((⟨#[]⟩ : ByteArray)), .string ((⟨#[]⟩ : ByteArray)), .string ((⟨#[]⟩ : ByteArray)), .string ((⟨#[]⟩ : ByteArray)), .string ((⟨#[]⟩ : ByteArray)), .string ((⟨#[]⟩ : ByteArray)), .string ((⟨#[]⟩ : ByteArray)), .string ((⟨#[]⟩ : ByteArray)), .string ((⟨#[]⟩ : ByteArray)), .string ((⟨#[]⟩ : ByteArray)), .string ((⟨#[]⟩ : ByteArray)), .string ((⟨#[]⟩ : ByteArray)), .string ((⟨#[]⟩ : ByteArray)), .string ((⟨#[]⟩ : ByteArray)), .string ((⟨#[]⟩ : ByteArray)), .string ((⟨#[]⟩ : ByteArray)), .string ((⟨#[]⟩ : ByteArray)), .string ((⟨#[]⟩ : ByteArray)), .string ((⟨#[]⟩ : ByteArray)), .string ((⟨#[]⟩ : ByteArray)), .string ((⟨#[]⟩ : ByteArray)), .string ((⟨#[]⟩ : ByteArray)), .string ((⟨#[]⟩ : ByteArray)), .string ((⟨#[]⟩ : ByteArray)), .string ((⟨#[]⟩ : ByteArray)), .string ((⟨#[]⟩ : ByteArray)), .string ((⟨#[]⟩ : ByteArray)), .string ((⟨#[]⟩ : ByteArray))] 257) fun vw2 =>
  St vw2 (⟨w.heap.size, 0, none⟩ : Addr) (.string ((⟨#[]⟩ : ByteArray))) fun vw3 =>
  St vw3 ((⟨w.heap.size, 0, none⟩ : Addr).add 1) (.string ((⟨#[98, 32, 66, 32, 98, 42, 32, 66, 42, 32, 66, 84, 32, 69, 84, 32, 69, 77, 67, 32, 66, 88, 32, 69, 88, 32, 102, 32, 70, 32, 102, 42, 32, 104, 32, 110, 32, 113, 32, 81, 32, 115, 32, 83, 32, 84, 42, 32, 87, 32, 87, 42]⟩ : ByteArray))) fun vw4 =>
  St vw4 ((⟨w.heap.size, 0, none⟩ : Addr).add 2) (.string ((⟨#[110]⟩ : ByteArray))) fun vw5 =>
  St vw5 ((⟨w.heap.size, 0, none⟩ : Addr).add 3) (.string ((⟨#[103, 32, 71, 32, 105, 32, 106, 32, 74, 32, 77, 32, 119, 32, 84, 99, 32, 84, 76, 32, 84, 114, 32, 84, 115, 32, 84, 119, 32, 84, 122]⟩ : ByteArray))) fun vw6 =>
  St vw6 ((⟨w.heap.size, 0, none⟩ : Addr).add 4) (.string ((⟨#[110, 110]⟩ : ByteArray))) fun vw7 =>
  St vw7 ((⟨w.heap.size, 0, none⟩ : Addr).add 5) (.string ((⟨#[100, 48, 32, 108, 32, 109, 32, 84, 100, 32, 84, 68]⟩ : ByteArray))) fun vw8 =>
  St vw8 ((⟨w.heap.size, 0, none⟩ : Addr).add 6) (.string ((⟨#[110, 110, 110]⟩ : ByteArray))) fun vw9 =>
  St vw9 ((⟨w.heap.size, 0, none⟩ : Addr).add 7) (.string ((⟨#[114, 103, 32, 82, 71]⟩ : ByteArray))) fun vw10 =>
  St vw10 ((⟨w.heap.size, 0, none⟩ : Addr).add 8) (.string ((⟨#[110, 110, 110, 110]⟩ : ByteArray))) fun vw11 =>
  St vw11 ((⟨w.heap.size, 0, none⟩ : Addr).add 9) (.string ((⟨#[107, 32, 75, 32, 114, 101, 32, 118, 32, 121]⟩ : ByteArray))) fun vw12 =>
  St vw12 ((⟨w.heap.size, 0, none⟩ : Addr).add 10) (.string ((⟨#[110, 110, 110, 110, 110, 110]⟩ : ByteArray))) fun vw13 =>
  St vw13 ((⟨w.heap.size, 0, none⟩ : Addr).add 11) (.string ((⟨#[99, 32, 99, 109, 32, 100, 49, 32, 84, 109]⟩ : ByteArray))) fun vw14 =>
  St vw14 ((⟨w.heap.size, 0, none⟩ : Addr).add 12) (.string ((⟨#[78]⟩ : ByteArray))) fun vw15 =>
  St vw15 ((⟨w.heap.size, 0, none⟩ : Addr).add 13) (.string ((⟨#[66, 77, 67, 32, 99, 115, 32, 67, 83, 32, 68, 111, 32, 103, 115, 32, 77, 80, 32, 114, 105, 32, 115, 104]⟩ : ByteArray))) fun vw16 =>
  St vw16 ((⟨w.heap.size, 0, none⟩ : Addr).add 14) (.string ((⟨#[78, 110]⟩ : ByteArray))) fun vw17 =>
  St vw17 ((⟨w.heap.size, 0, none⟩ : Addr).add 15) (.string ((⟨#[84, 102]⟩ : ByteArray))) fun vw18 =>
  St vw18 ((⟨w.heap.size, 0, none⟩ : Addr).add 16) (.string ((⟨#[78, 42]⟩ : ByteArray))) fun vw19 =>
  St vw19 ((⟨w.heap.size, 0, none⟩ : Addr).add 17) (.string ((⟨#[66, 68, 67, 32, 68, 80]⟩ : ByteArray))) fun vw20 =>
  St vw20 ((⟨w.heap.size, 0, none⟩ : Addr).add 18) (.string ((⟨#[115]⟩ : ByteArray))) fun vw21 =>
  St vw21 ((⟨w.heap.size, 0, none⟩ : Addr).add 19) (.string ((⟨#[84, 106, 32, 39]⟩ : ByteArray))) fun vw22 =>
  St vw22 ((⟨w.heap.size, 0, none⟩ : Addr).add 20) (.string ((⟨#[110, 110, 115]⟩ : ByteArray))) fun vw23 =>
  St vw23 ((⟨w.heap.size, 0, none⟩ : Addr).add 21) (.string ((⟨#[34]⟩ : ByteArray))) fun vw24 =>
  St vw24 ((⟨w.heap.size, 0, none⟩ : Addr).add 22) (.string ((⟨#[97]⟩ : ByteArray))) fun vw25 =>
  St vw25 ((⟨w.heap.size, 0, none⟩ : Addr).add 23) (.string ((⟨#[84, 74]⟩ : ByteArray))) fun vw26 =>
  St vw26 ((⟨w.heap.size, 0, none⟩ : Addr).add 24) (.string ((⟨#[97, 110]⟩ : ByteArray))) fun vw27 =>
  St vw27 ((⟨w.heap.size, 0, none⟩ : Addr).add 25) (.string ((⟨#[100]⟩ : ByteArray))) fun vw28 =>
  St vw28 ((⟨w.heap.size, 0, none⟩ : Addr).add 26) (.string ((⟨#[100]⟩ : ByteArray))) fun vw29 =>
  St vw29 ((⟨w.heap.size, 0, none⟩ : Addr).add 27) (.string ((⟨#[66, 73]⟩ : ByteArray))) fun vw30 =>
  Ld vw30 (⟨w.heap.size, 0, none⟩ : Addr) Value.string fun (x31 : ByteArray) =>
  Ld vw30 ((⟨w.heap.size, 0, none⟩ : Addr).add 1) Value.string fun (x32 : ByteArray) =>
  Ld vw30 ((⟨w.heap.size, 0, none⟩ : Addr).add 2) Value.string fun (x33 : ByteArray) =>
  Ld vw30 ((⟨w.heap.size, 0, none⟩ : Addr).add 3) Value.string fun (x34 : ByteArray) =>
  Ld vw30 ((⟨w.heap.size, 0, none⟩ : Addr).add 4) Value.string fun (x35 : ByteArray) =>
  Ld vw30 ((⟨w.heap.size, 0, none⟩ : Addr).add 5) Value.string fun (x36 : ByteArray) =>
  Ld vw30 ((⟨w.heap.size, 0, none⟩ : Addr).add 6) Value.string fun (x37 : ByteArray) =>
  Ld vw30 ((⟨w.heap.size, 0, none⟩ : Addr).add 7) Value.string fun (x38 : ByteArray) =>
  Ld vw30 ((⟨w.heap.size, 0, none⟩ : Addr).add 8) Value.string fun (x39 : ByteArray) =>
  Ld vw30 ((⟨w.heap.size, 0, none⟩ : Addr).add 9) Value.string fun (x40 : ByteArray) =>
  Ld vw30 ((⟨w.heap.size, 0, none⟩ : Addr).add 10) Value.string fun (x41 : ByteArray) =>
  Ld vw30 ((⟨w.heap.size, 0, none⟩ : Addr).add 11) Value.string fun (x42 : ByteArray) =>
  Ld vw30 ((⟨w.heap.size, 0, none⟩ : Addr).add 12) Value.string fun (x43 : ByteArray) =>
  Ld vw30 ((⟨w.heap.size, 0, none⟩ : Addr).add 13) Value.string fun (x44 : ByteArray) =>
  Ld vw30 ((⟨w.heap.size, 0, none⟩ : Addr).add 14) Value.string fun (x45 : ByteArray) =>
  Ld vw30 ((⟨w.heap.size, 0, none⟩ : Addr).add 15) Value.string fun (x46 : ByteArray) =>
  Ld vw30 ((⟨w.heap.size, 0, none⟩ : Addr).add 16) Value.string fun (x47 : ByteArray) =>
  Ld vw30 ((⟨w.heap.size, 0, none⟩ : Addr).add 17) Value.string fun (x48 : ByteArray) =>
  Ld vw30 ((⟨w.heap.size, 0, none⟩ : Addr).add 18) Value.string fun (x49 : ByteArray) =>
  Ld vw30 ((⟨w.heap.size, 0, none⟩ : Addr).add 19) Value.string fun (x50 : ByteArray) =>
  Ld vw30 ((⟨w.heap.size, 0, none⟩ : Addr).add 20) Value.string fun (x51 : ByteArray) =>
  Ld vw30 ((⟨w.heap.size, 0, none⟩ : Addr).add 21) Value.string fun (x52 : ByteArray) =>
  Ld vw30 ((⟨w.heap.size, 0, none⟩ : Addr).add 22) Value.string fun (x53 : ByteArray) =>
  Ld vw30 ((⟨w.heap.size, 0, none⟩ : Addr).add 23) Value.string fun (x54 : ByteArray) =>
  Ld vw30 ((⟨w.heap.size, 0, none⟩ : Addr).add 24) Value.string fun (x55 : ByteArray) =>
  Ld vw30 ((⟨w.heap.size, 0, none⟩ : Addr).add 25) Value.string fun (x56 : ByteArray) =>
  Ld vw30 ((⟨w.heap.size, 0, none⟩ : Addr).add 26) Value.string fun (x57 : ByteArray) =>
  Ld vw30 ((⟨w.heap.size, 0, none⟩ : Addr).add 27) Value.string fun (x58 : ByteArray) =>
  Lp (σ := Int) (S141L1 name1 x31 x32 x33 x34 x35 x36 x37 x38 x39 x40 x41 x42 x43 x44 x45 x46 x47 x48 x49 x50 x51 x52 x53 x54 x55 x56 x57 x58 R) 0 vw30
def pl141 : Plan := (.seq (.reg .seq) (.seq (.reg .seq) (.seq (.seq (.reg .seq) (.block (.loop [(22, (.one (.int .i64)))] [0, 21] (.seq (.reg .seq) (.seq (.cond .leaf .leaf) (.seq (.block (.seq (.reg .seq) (.seq (.reg .seq) (.cond (.seq (.reg .seq) .leaf) .leaf)))) (.reg .seq))))))) (.seq (.reg .seq) .leaf))))
set_option maxRecDepth 100000 in
theorem T141 (name1 : ByteArray) (w : World) (R : ByteArray → World → Prop) (h : S141 name1 w R) : C141 name1 w R := by
  have e : fnT Tryd.prog ⟨FF, MAY, (fun _ _ => False)⟩ pl141 Tryd.f141 [.string name1] w [(.one .str)] (fun s w => R s w) = S141 name1 w R := by kernel_rfl
  exact (fn_calls okF okM Tryd.func141 (by kernel_rfl) (by kernel_rfl) (e.mpr h)).mono fun _ _ ⟨s, he, hR⟩ => ⟨s, he, hR⟩

/-- foliant/ops.fits -/
def S142 (letter1 : Int) (kind2 : Int) (w : World) (R : Bool → World → Prop) : Prop :=
  Br (letter1 == 110) (Br (kind2 == 2) (R true w) (R (kind2 == 3) w)) (Br (letter1 == 115) (R (kind2 == 4) w) (Br (letter1 == 78) (R (kind2 == 5) w) (Br (letter1 == 97) (R (kind2 == 6) w) (Br (letter1 == 100) (R (kind2 == 7) w) (R true w)))))
def pl142 : Plan := (.seq (.reg .seq) (.seq (.seq (.reg .seq) (.block (.seq (.reg .seq) (.cond (.seq (.reg .seq) .leaf) (.seq (.reg .seq) (.cond (.seq (.reg .seq) .leaf) (.seq (.reg .seq) (.cond (.seq (.reg .seq) .leaf) (.seq (.reg .seq) (.cond (.seq (.reg .seq) .leaf) (.seq (.reg .seq) (.cond (.seq (.reg .seq) .leaf) .leaf)))))))))))) (.seq (.reg .seq) .leaf)))
set_option maxRecDepth 100000 in
theorem T142 (letter1 : Int) (kind2 : Int) (w : World) (R : Bool → World → Prop) (h : S142 letter1 kind2 w R) : C142 letter1 kind2 w R := by
  have e : fnT Tryd.prog ⟨FF, MAY, (fun _ _ => False)⟩ pl142 Tryd.f142 [.int .i32 letter1, .int .i64 kind2] w [(.one .bool)] (fun s w => R s w) = S142 letter1 kind2 w R := by kernel_rfl
  exact (fn_calls okF okM Tryd.func142 (by kernel_rfl) (by kernel_rfl) (e.mpr h)).mono fun _ _ ⟨s, he, hR⟩ => ⟨s, he, hR⟩

def S80L1 (w : World) (vw5 : World) (R : Int → World → Prop) (I23 : Unit → World → Prop) (s21 : Unit) (vw22 : World) : Prop :=
  Nx vw22 (⟨vw5.heap.size, 0, none⟩ : Addr) (fun (i24 : Int) (ch25 : Int) (vw26 : World) =>
    Ld vw26 ((⟨w.heap.size, 0, none⟩ : Addr).add 1) Slc.v fun (x27 : Slc) =>
    0 ≤ i24 ∧ i24 < (x27.len : Nat) ∧ Nn x27.p fun a28 =>
    Ld vw26 (a28.add ((i24).toNat * 6)) (Value.int .i64) fun (x29 : Int) =>
    C142 ch25 x29 vw26 fun r30 vw31 =>
      Br (!r30) (R 28 vw31) (I23 () vw31)) (Ld vw22 ((⟨w.heap.size, 0, none⟩ : Addr).add 2) Value.string fun (x32 : ByteArray) =>
    Br (!(x32.toList == (⟨#[]⟩ : ByteArray).toList)) (Ld vw22 (⟨w.heap.size, 0, none⟩ : Addr) Value.string fun (x33 : ByteArray) =>
      Br (!(x33.toList == (⟨#[66, 73]⟩ : ByteArray).toList)) (R 3 vw22) (R 0 vw22)) (R 0 vw22))
/-- foliant/ops.Check -/
def S80 (o1 : ByteArray × Slc × ByteArray) (w : World) (R : Int → World → Prop) : Prop :=
  Nw w (.cells #[.string o1.1, Slc.v o1.2.1, .string o1.2.2] 63) fun vw2 =>
  Ld vw2 (⟨w.heap.size, 0, none⟩ : Addr) Value.string fun (x3 : ByteArray) =>
  C141 x3 vw2 fun r4 vw5 =>
    Br (r4.toList == (⟨#[63]⟩ : ByteArray).toList) (R 28 vw5) (Ld vw5 ((⟨w.heap.size, 0, none⟩ : Addr).add 1) Slc.v fun (x7 : Slc) =>
      Br ((((r4).size : Nat) : Int) != ((x7.len : Nat) : Int)) (R 28 vw5) (Nw vw5 (.stringIter r4 0) fun vw20 =>
        Lp (σ := Unit) (S80L1 w vw5 R) () vw20))
def pl80 : Plan := (.seq (.reg .seq) (.seq (.reg .seq) (.seq (.seq (.reg .seq) (.cond (.seq (.reg .seq) .leaf) .leaf)) (.seq (.seq (.reg .seq) (.block (.loop [] [1, 20] (.seq (.reg .seq) (.seq (.cond .leaf .leaf) (.block (.seq (.reg .seq) (.seq (.reg .seq) (.cond (.seq (.reg .seq) .leaf) .leaf))))))))) (.seq (.seq (.reg .seq) (.cond (.seq (.reg .seq) .leaf) .leaf)) (.seq (.reg .seq) .leaf))))))
set_option maxRecDepth 100000 in
theorem T80 (o1 : ByteArray × Slc × ByteArray) (w : World) (R : Int → World → Prop) (h : S80 o1 w R) : C80 (o1.1, o1.2.1, o1.2.2) w R := by
  have e : fnT Tryd.prog ⟨FF, MAY, (fun _ _ => False)⟩ pl80 Tryd.f80 [.agg #[.string o1.1, Slc.v o1.2.1, .string o1.2.2]] w [(.one (.int .i64))] (fun s w => R s w) = S80 o1 w R := by kernel_rfl
  exact (fn_calls okF okM Tryd.func80 (by kernel_rfl) (by kernel_rfl) (e.mpr h)).mono fun _ _ ⟨s, he, hR⟩ => ⟨s, he, hR⟩

def S104J1 (name1 : ByteArray) (R : ByteArray → World → Prop) (s18 : Bool) (vw19 : World) : Prop :=
  Br s18 (R (⟨#[115]⟩ : ByteArray) vw19) (Br (name1.toList == (⟨#[34]⟩ : ByteArray).toList) (R (⟨#[110, 110, 115]⟩ : ByteArray) vw19) (Br (name1.toList == (⟨#[84, 74]⟩ : ByteArray).toList) (R (⟨#[97]⟩ : ByteArray) vw19) (Br (name1.toList == (⟨#[100]⟩ : ByteArray).toList) (R (⟨#[97, 110]⟩ : ByteArray) vw19) (Br (name1.toList == (⟨#[66, 73]⟩ : ByteArray).toList) (R (⟨#[100]⟩ : ByteArray) vw19) (R (⟨#[63]⟩ : ByteArray) vw19)))))
def S104J2 (name1 : ByteArray) (R : ByteArray → World → Prop) (s16 : Bool) (vw17 : World) : Prop :=
  Br s16 (R (⟨#[78, 42]⟩ : ByteArray) vw17) (Join (S104J1 name1 R) fun (vJ20 : Bool → World → Prop) =>
      Br (name1.toList == (⟨#[84, 106]⟩ : ByteArray).toList) (vJ20 (name1.toList == (⟨#[84, 106]⟩ : ByteArray).toList) vw17) (vJ20 (name1.toList == (⟨#[39]⟩ : ByteArray).toList) vw17))
def S104J3 (name1 : ByteArray) (R : ByteArray → World → Prop) (s14 : Bool) (vw15 : World) : Prop :=
  Br s14 (R (⟨#[78]⟩ : ByteArray) vw15) (Br (name1.toList == (⟨#[84, 102]⟩ : ByteArray).toList) (R (⟨#[78, 110]⟩ : ByteArray) vw15) (Join (S104J2 name1 R) fun (vJ21 : Bool → World → Prop) =>
        Br (name1.toList == (⟨#[66, 68, 67]⟩ : ByteArray).toList) (vJ21 (name1.toList == (⟨#[66, 68, 67]⟩ : ByteArray).toList) vw15) (vJ21 (name1.toList == (⟨#[68, 80]⟩ : ByteArray).toList) vw15)))
def S104J4 (name1 : ByteArray) (R : ByteArray → World → Prop) (s12 : Bool) (vw13 : World) : Prop :=
  Br s12 (R (⟨#[110, 110, 110, 110, 110, 110]⟩ : ByteArray) vw13) (Join (S104J3 name1 R) fun (vJ22 : Bool → World → Prop) =>
      Br (name1.toList == (⟨#[66, 77, 67]⟩ : ByteArray).toList) (vJ22 (name1.toList == (⟨#[66, 77, 67]⟩ : ByteArray).toList) vw13) (Br (name1.toList == (⟨#[99, 115]⟩ : ByteArray).toList) (vJ22 (name1.toList == (⟨#[99, 115]⟩ : ByteArray).toList) vw13) (Br (name1.toList == (⟨#[67, 83]⟩ : ByteArray).toList) (vJ22 (name1.toList == (⟨#[67, 83]⟩ : ByteArray).toList) vw13) (Br (name1.toList == (⟨#[68, 111]⟩ : ByteArray).toList) (vJ22 (name1.toList == (⟨#[68, 111]⟩ : ByteArray).toList) vw13) (Br (name1.toList == (⟨#[103, 115]⟩ : ByteArray).toList) (vJ22 (name1.toList == (⟨#[103, 115]⟩ : ByteArray).toList) vw13) (Br (name1.toList == (⟨#[77, 80]⟩ : ByteArray).toList) (vJ22 (name1.toList == (⟨#[77, 80]⟩ : ByteArray).toList) vw13) (Br (name1.toList == (⟨#[114, 105]⟩ : ByteArray).toList) (vJ22 (name1.toList == (⟨#[114, 105]⟩ : ByteArray).toList) vw13) (vJ22 (name1.toList == (⟨#[115, 104]⟩ : ByteArray).toList) vw13))))))))
def S104J5 (name1 : ByteArray) (R : ByteArray → World → Prop) (s10 : Bool) (vw11 : World) : Prop :=
  Br s10 (R (⟨#[110, 110, 110, 110]⟩ : ByteArray) vw11) (Join (S104J4 name1 R) fun (vJ23 : Bool → World → Prop) =>
      Br (name1.toList == (⟨#[99]⟩ : ByteArray).toList) (vJ23 (name1.toList == (⟨#[99]⟩ : ByteArray).toList) vw11) (Br (name1.toList == (⟨#[99, 109]⟩ : ByteArray).toList) (vJ23 (name1.toList == (⟨#[99, 109]⟩ : ByteArray).toList) vw11) (Br (name1.toList == (⟨#[100, 49]⟩ : ByteArray).toList) (vJ23 (name1.toList == (⟨#[100, 49]⟩ : ByteArray).toList) vw11) (vJ23 (name1.toList == (⟨#[84, 109]⟩ : ByteArray).toList) vw11))))
def S104J6 (name1 : ByteArray) (R : ByteArray → World → Prop) (s8 : Bool) (vw9 : World) : Prop :=
  Br s8 (R (⟨#[110, 110, 110]⟩ : ByteArray) vw9) (Join (S104J5 name1 R) fun (vJ24 : Bool → World → Prop) =>
      Br (name1.toList == (⟨#[107]⟩ : ByteArray).toList) (vJ24 (name1.toList == (⟨#[107]⟩ : ByteArray).toList) vw9) (Br (name1.toList == (⟨#[75]⟩ : ByteArray).toList) (vJ24 (name1.toList == (⟨#[75]⟩ : ByteArray).toList) vw9) (Br (name1.toList == (⟨#[114, 101]⟩ : ByteArray).toList) (vJ24 (name1.toList == (⟨#[114, 101]⟩ : ByteArray).toList) vw9) (Br (name1.toList == (⟨#[118]⟩ : ByteArray).toList) (vJ24 (name1.toList == (⟨#[118]⟩ : ByteArray).toList) vw9) (vJ24 (name1.toList == (⟨#[121]⟩ : ByteArray).toList) vw9)))))
def S104J7 (name1 : ByteArray) (R : ByteArray → World → Prop) (s6 : Bool) (vw7 : World) : Prop :=
  Br s6 (R (⟨#[110, 110]⟩ : ByteArray) vw7) (Join (S104J6 name1 R) fun (vJ25 : Bool → World → Prop) =>
      Br (name1.toList == (⟨#[114, 103]⟩ : ByteArray).toList) (vJ25 (name1.toList == (⟨#[114, 103]⟩ : ByteArray).toList) vw7) (vJ25 (name1.toList == (⟨#[82, 71]⟩ : ByteArray).toList) vw7))
def S104J8 (name1 : ByteArray) (R : ByteArray → World → Prop) (s4 : Bool) (vw5 : World) : Prop :=
  Br s4 (R (⟨#[110]⟩ : ByteArray) vw5) (Join (S104J7 name1 R) fun (vJ26 : Bool → World → Prop) =>
      Br (name1.toList == (⟨#[100, 48]⟩ : ByteArray).toList) (vJ26 (name1.toList == (⟨#[100, 48]⟩ : ByteArray).toList) vw5) (Br (name1.toList == (⟨#[108]⟩ : ByteArray).toList) (vJ26 (name1.toList == (⟨#[108]⟩ : ByteArray).toList) vw5) (Br (name1.toList == (⟨#[109]⟩ : ByteArray).toList) (vJ26 (name1.toList == (⟨#[109]⟩ : ByteArray).toList) vw5) (Br (name1.toList == (⟨#[84, 100]⟩ : ByteArray).toList) (vJ26 (name1.toList == (⟨#[84, 100]⟩ : ByteArray).toList) vw5) (vJ26 (name1.toList == (⟨#[84, 68]⟩ : ByteArray).toList) vw5)))))
def S104J9 (name1 : ByteArray) (R : ByteArray → World → Prop) (s2 : Bool) (vw3 : World) : Prop :=
  Br s2 (R (⟨#[]⟩ : ByteArray) vw3) (Join (S104J8 name1 R) fun (vJ27 : Bool → World → Prop) =>
      Br (name1.toList == (⟨#[103]⟩ : ByteArray).toList) (vJ27 (name1.toList == (⟨#[103]⟩ : ByteArray).toList) vw3) (Br (name1.toList == (⟨#[71]⟩ : ByteArray).toList) (vJ27 (name1.toList == (⟨#[71]⟩ : ByteArray).toList) vw3) (Br (name1.toList == (⟨#[105]⟩ : ByteArray).toList) (vJ27 (name1.toList == (⟨#[105]⟩ : ByteArray).toList) vw3) (Br (name1.toList == (⟨#[106]⟩ : ByteArray).toList) (vJ27 (name1.toList == (⟨#[106]⟩ : ByteArray).toList) vw3) (Br (name1.toList == (⟨#[74]⟩ : ByteArray).toList) (vJ27 (name1.toList == (⟨#[74]⟩ : ByteArray).toList) vw3) (Br (name1.toList == (⟨#[77]⟩ : ByteArray).toList) (vJ27 (name1.toList == (⟨#[77]⟩ : ByteArray).toList) vw3) (Br (name1.toList == (⟨#[119]⟩ : ByteArray).toList) (vJ27 (name1.toList == (⟨#[119]⟩ : ByteArray).toList) vw3) (Br (name1.toList == (⟨#[84, 99]⟩ : ByteArray).toList) (vJ27 (name1.toList == (⟨#[84, 99]⟩ : ByteArray).toList) vw3) (Br (name1.toList == (⟨#[84, 76]⟩ : ByteArray).toList) (vJ27 (name1.toList == (⟨#[84, 76]⟩ : ByteArray).toList) vw3) (Br (name1.toList == (⟨#[84, 114]⟩ : ByteArray).toList) (vJ27 (name1.toList == (⟨#[84, 114]⟩ : ByteArray).toList) vw3) (Br (name1.toList == (⟨#[84, 115]⟩ : ByteArray).toList) (vJ27 (name1.toList == (⟨#[84, 115]⟩ : ByteArray).toList) vw3) (Br (name1.toList == (⟨#[84, 119]⟩ : ByteArray).toList) (vJ27 (name1.toList == (⟨#[84, 119]⟩ : ByteArray).toList) vw3) (vJ27 (name1.toList == (⟨#[84, 122]⟩ : ByteArray).toList) vw3)))))))))))))
/-- foliant/foliantref43.Takes -/
def S104 (name1 : ByteArray) (w : World) (R : ByteArray → World → Prop) : Prop :=
  Join (S104J9 name1 R) fun (vJ28 : Bool → World → Prop) =>
    Br (name1.toList == (⟨#[98]⟩ : ByteArray).toList) (vJ28 (name1.toList == (⟨#[98]⟩ : ByteArray).toList) w) (Br (name1.toList == (⟨#[66]⟩ : ByteArray).toList) (vJ28 (name1.toList == (⟨#[66]⟩ : ByteArray).toList) w) (Br (name1.toList == (⟨#[98, 42]⟩ : ByteArray).toList) (vJ28 (name1.toList == (⟨#[98, 42]⟩ : ByteArray).toList) w) (Br (name1.toList == (⟨#[66, 42]⟩ : ByteArray).toList) (vJ28 (name1.toList == (⟨#[66, 42]⟩ : ByteArray).toList) w) (Br (name1.toList == (⟨#[66, 84]⟩ : ByteArray).toList) (vJ28 (name1.toList == (⟨#[66, 84]⟩ : ByteArray).toList) w) (Br (name1.toList == (⟨#[69, 84]⟩ : ByteArray).toList) (vJ28 (name1.toList == (⟨#[69, 84]⟩ : ByteArray).toList) w) (Br (name1.toList == (⟨#[69, 77, 67]⟩ : ByteArray).toList) (vJ28 (name1.toList == (⟨#[69, 77, 67]⟩ : ByteArray).toList) w) (Br (name1.toList == (⟨#[66, 88]⟩ : ByteArray).toList) (vJ28 (name1.toList == (⟨#[66, 88]⟩ : ByteArray).toList) w) (Br (name1.toList == (⟨#[69, 88]⟩ : ByteArray).toList) (vJ28 (name1.toList == (⟨#[69, 88]⟩ : ByteArray).toList) w) (Br (name1.toList == (⟨#[102]⟩ : ByteArray).toList) (vJ28 (name1.toList == (⟨#[102]⟩ : ByteArray).toList) w) (Br (name1.toList == (⟨#[70]⟩ : ByteArray).toList) (vJ28 (name1.toList == (⟨#[70]⟩ : ByteArray).toList) w) (Br (name1.toList == (⟨#[102, 42]⟩ : ByteArray).toList) (vJ28 (name1.toList == (⟨#[102, 42]⟩ : ByteArray).toList) w) (Br (name1.toList == (⟨#[104]⟩ : ByteArray).toList) (vJ28 (name1.toList == (⟨#[104]⟩ : ByteArray).toList) w) (Br (name1.toList == (⟨#[110]⟩ : ByteArray).toList) (vJ28 (name1.toList == (⟨#[110]⟩ : ByteArray).toList) w) (Br (name1.toList == (⟨#[113]⟩ : ByteArray).toList) (vJ28 (name1.toList == (⟨#[113]⟩ : ByteArray).toList) w) (Br (name1.toList == (⟨#[81]⟩ : ByteArray).toList) (vJ28 (name1.toList == (⟨#[81]⟩ : ByteArray).toList) w) (Br (name1.toList == (⟨#[115]⟩ : ByteArray).toList) (vJ28 (name1.toList == (⟨#[115]⟩ : ByteArray).toList) w) (Br (name1.toList == (⟨#[83]⟩ : ByteArray).toList) (vJ28 (name1.toList == (⟨#[83]⟩ : ByteArray).toList) w) (Br (name1.toList == (⟨#[84, 42]⟩ : ByteArray).toList) (vJ28 (name1.toList == (⟨#[84, 42]⟩ : ByteArray).toList) w) (Br (name1.toList == (⟨#[87]⟩ : ByteArray).toList) (vJ28 (name1.toList == (⟨#[87]⟩ : ByteArray).toList) w) (vJ28 (name1.toList == (⟨#[87, 42]⟩ : ByteArray).toList) w))))))))))))))))))))
def pl104 : Plan := (.seq (.reg .seq) (.seq (.seq (.reg .seq) (.block (.join [(4, (.one .bool))] [3] (.seq (.reg .seq) (.cond .leaf (.seq (.reg .seq) (.cond .leaf (.seq (.reg .seq) (.cond .leaf (.seq (.reg .seq) (.cond .leaf (.seq (.reg .seq) (.cond .leaf (.seq (.reg .seq) (.cond .leaf (.seq (.reg .seq) (.cond .leaf (.seq (.reg .seq) (.cond .leaf (.seq (.reg .seq) (.cond .leaf (.seq (.reg .seq) (.cond .leaf (.seq (.reg .seq) (.cond .leaf (.seq (.reg .seq) (.cond .leaf (.seq (.reg .seq) (.cond .leaf (.seq (.reg .seq) (.cond .leaf (.seq (.reg .seq) (.cond .leaf (.seq (.reg .seq) (.cond .leaf (.seq (.reg .seq) (.cond .leaf (.seq (.reg .seq) (.cond .leaf (.seq (.reg .seq) (.cond .leaf (.seq (.reg .seq) (.cond .leaf (.reg .seq))))))))))))))))))))))))))))))))))))))))) (.cond (.seq (.reg .seq) .leaf) (.join [(26, (.one .bool))] [3] (.seq (.reg .seq) (.cond .leaf (.seq (.reg .seq) (.cond .leaf (.seq (.reg .seq) (.cond .leaf (.seq (.reg .seq) (.cond .leaf (.seq (.reg .seq) (.cond .leaf (.seq (.reg .seq) (.cond .leaf (.seq (.reg .seq) (.cond .leaf (.seq (.reg .seq) (.cond .leaf (.seq (.reg .seq) (.cond .leaf (.seq (.reg .seq) (.cond .leaf (.seq (.reg .seq) (.cond .leaf (.seq (.reg .seq) (.cond .leaf (.reg .seq))))))))))))))))))))))))) (.cond (.seq (.reg .seq) .leaf) (.join [(40, (.one .bool))] [3] (.seq (.reg .seq) (.cond .leaf (.seq (.reg .seq) (.cond .leaf (.seq (.reg .seq) (.cond .leaf (.seq (.reg .seq) (.cond .leaf (.reg .seq))))))))) (.cond (.seq (.reg .seq) .leaf) (.join [(46, (.one .bool))] [3] (.seq (.reg .seq) (.cond .leaf (.reg .seq))) (.cond (.seq (.reg .seq) .leaf) (.join [(49, (.one .bool))] [3] (.seq (.reg .seq) (.cond .leaf (.seq (.reg .seq) (.cond .leaf (.seq (.reg .seq) (.cond .leaf (.seq (.reg .seq) (.cond .leaf (.reg .seq))))))))) (.cond (.seq (.reg .seq) .leaf) (.join [(55, (.one .bool))] [3] (.seq (.reg .seq) (.cond .leaf (.seq (.reg .seq) (.cond .leaf (.seq (.reg .seq) (.cond .leaf (.reg .seq))))))) (.cond (.seq (.reg .seq) .leaf) (.join [(60, (.one .bool))] [3] (.seq (.reg .seq) (.cond .leaf (.seq (.reg .seq) (.cond .leaf (.seq (.reg .seq) (.cond .leaf (.seq (.reg .seq) (.cond .leaf (.seq (.reg .seq) (.cond .leaf (.seq (.reg .seq) (.cond .leaf (.seq (.reg .seq) (.cond .leaf (.reg .seq))))))))))))))) (.cond (.seq (.reg .seq) .leaf) (.seq (.reg .seq) (.cond (.seq (.reg .seq) .leaf) (.join [(71, (.one .bool))] [3] (.seq (.reg .seq) (.cond .leaf (.reg .seq))) (.cond (.seq (.reg .seq) .leaf) (.join [(74, (.one .bool))] [3] (.seq (.reg .seq) (.cond .leaf (.reg .seq))) (.cond (.seq (.reg .seq) .leaf) (.seq (.reg .seq) (.cond (.seq (.reg .seq) .leaf) (.seq (.reg .seq) (.cond (.seq (.reg .seq) .leaf) (.seq (.reg .seq) (.cond (.seq (.reg .seq) .leaf) (.seq (.reg .seq) (.cond (.seq (.reg .seq) .leaf) .leaf)))))))))))))))))))))))))))))) (.seq (.reg .seq) .leaf)))
set_option maxRecDepth 100000 in
theorem T104 (name1 : ByteArray) (w : World) (R : ByteArray → World → Prop) (h : S104 name1 w R) : C104 name1 w R := by
  have e : fnT Tryd.prog ⟨FF, MAY, (fun _ _ => False)⟩ pl104 Tryd.f104 [.string name1] w [(.one .str)] (fun s w => R s w) = S104 name1 w R := by kernel_rfl
  exact (fn_calls okF okM Tryd.func104 (by kernel_rfl) (by kernel_rfl) (e.mpr h)).mono fun _ _ ⟨s, he, hR⟩ => ⟨s, he, hR⟩

/-- foliant/foliantref43.fits -/
def S105 (o1 : Int × Int × Int × ByteArray × Slc × Slc) (c2 : Int) (w : World) (R : Bool → World → Prop) : Prop :=
  Nw w (.cells #[.int .i64 (o1.1), .int .i64 (o1.2.1), .int .i64 (o1.2.2.1), .string o1.2.2.2.1, Slc.v o1.2.2.2.2.1, Slc.v o1.2.2.2.2.2] 81) fun vw3 =>
  Br (c2 == 110) (Ld vw3 (⟨w.heap.size, 0, none⟩ : Addr) (Value.int .i64) fun (x4 : Int) =>
    Br (x4 == 2) (R true vw3) (Ld vw3 (⟨w.heap.size, 0, none⟩ : Addr) (Value.int .i64) fun (x5 : Int) =>
      R (x5 == 3) vw3)) (Br (c2 == 115) (Ld vw3 (⟨w.heap.size, 0, none⟩ : Addr) (Value.int .i64) fun (x6 : Int) =>
      R (x6 == 4) vw3) (Br (c2 == 78) (Ld vw3 (⟨w.heap.size, 0, none⟩ : Addr) (Value.int .i64) fun (x7 : Int) =>
        R (x7 == 5) vw3) (Br (c2 == 97) (Ld vw3 (⟨w.heap.size, 0, none⟩ : Addr) (Value.int .i64) fun (x8 : Int) =>
          R (x8 == 6) vw3) (Br (c2 == 100) (Ld vw3 (⟨w.heap.size, 0, none⟩ : Addr) (Value.int .i64) fun (x9 : Int) =>
            R (x9 == 7) vw3) (R true vw3)))))
def pl105 : Plan := (.seq (.reg .seq) (.seq (.seq (.reg .seq) (.block (.seq (.reg .seq) (.cond (.seq (.reg .seq) .leaf) (.seq (.reg .seq) (.cond (.seq (.reg .seq) .leaf) (.seq (.reg .seq) (.cond (.seq (.reg .seq) .leaf) (.seq (.reg .seq) (.cond (.seq (.reg .seq) .leaf) (.seq (.reg .seq) (.cond (.seq (.reg .seq) .leaf) .leaf)))))))))))) (.seq (.reg .seq) .leaf)))
set_option maxRecDepth 100000 in
theorem T105 (o1 : Int × Int × Int × ByteArray × Slc × Slc) (c2 : Int) (w : World) (R : Bool → World → Prop) (h : S105 o1 c2 w R) : C105 (o1.1, o1.2.1, o1.2.2.1, o1.2.2.2.1, o1.2.2.2.2.1, o1.2.2.2.2.2) c2 w R := by
  have e : fnT Tryd.prog ⟨FF, MAY, (fun _ _ => False)⟩ pl105 Tryd.f105 [.agg #[.int .i64 (o1.1), .int .i64 (o1.2.1), .int .i64 (o1.2.2.1), .string o1.2.2.2.1, Slc.v o1.2.2.2.2.1, Slc.v o1.2.2.2.2.2], .int .u8 c2] w [(.one .bool)] (fun s w => R s w) = S105 o1 c2 w R := by kernel_rfl
  exact (fn_calls okF okM Tryd.func105 (by kernel_rfl) (by kernel_rfl) (e.mpr h)).mono fun _ _ ⟨s, he, hR⟩ => ⟨s, he, hR⟩

def S43L1 (w : World) (r4 : ByteArray) (R : Int → World → Prop) (I23 : Int → World → Prop) (s21 : Int) (vw22 : World) : Prop :=
  Br (decide (s21 < (((r4).size : Nat) : Int))) (Ld vw22.drew ((⟨w.heap.size, 0, none⟩ : Addr).add 1) Slc.v fun (x24 : Slc) =>
    0 ≤ s21 ∧ s21 < (x24.len : Nat) ∧ Nn x24.p fun a25 =>
    Ld vw22.drew (a25.add ((s21).toNat * 6)) (Value.int .i64) fun (x26 : Int) =>
    Ld vw22.drew ((a25.add ((s21).toNat * 6)).add 1) (Value.int .i64) fun (x27 : Int) =>
    Ld vw22.drew ((a25.add ((s21).toNat * 6)).add 2) (Value.int .i64) fun (x28 : Int) =>
    Ld vw22.drew ((a25.add ((s21).toNat * 6)).add 3) Value.string fun (x29 : ByteArray) =>
    Ld vw22.drew ((a25.add ((s21).toNat * 6)).add 4) Slc.v fun (x30 : Slc) =>
    Ld vw22.drew ((a25.add ((s21).toNat * 6)).add 5) Slc.v fun (x31 : Slc) =>
    0 ≤ s21 ∧ s21 < ((r4).size : Nat) ∧ C105 (x26, x27, x28, x29, x30, x31) (bAt r4 s21) vw22.drew fun r32 vw33 =>
      Br (!r32) (R 28 vw33) (I23 (IntKind.i64.wrap (s21 + 1)) vw33)) (Ld vw22 ((⟨w.heap.size, 0, none⟩ : Addr).add 2) Value.string fun (x34 : ByteArray) =>
    Br (!(x34.toList == (⟨#[]⟩ : ByteArray).toList)) (Ld vw22 (⟨w.heap.size, 0, none⟩ : Addr) Value.string fun (x35 : ByteArray) =>
      Br (!(x35.toList == (⟨#[66, 73]⟩ : ByteArray).toList)) (R 3 vw22) (R 0 vw22)) (R 0 vw22))
/-- foliant/foliantref43.Check -/
def S43 (o1 : ByteArray × Slc × ByteArray) (w : World) (R : Int → World → Prop) : Prop :=
  Nw w (.cells #[.string o1.1, Slc.v o1.2.1, .string o1.2.2] 63) fun vw2 =>
  Ld vw2 (⟨w.heap.size, 0, none⟩ : Addr) Value.string fun (x3 : ByteArray) =>
  C104 x3 vw2 fun r4 vw5 =>
    Br (r4.toList == (⟨#[63]⟩ : ByteArray).toList) (R 28 vw5) (Ld vw5 ((⟨w.heap.size, 0, none⟩ : Addr).add 1) Slc.v fun (x7 : Slc) =>
      Br ((((r4).size : Nat) : Int) != ((x7.len : Nat) : Int)) (R 28 vw5) (Lp (σ := Int) (S43L1 w r4 R) 0 vw5))
def pl43 : Plan := (.seq (.reg .seq) (.seq (.reg .seq) (.seq (.seq (.reg .seq) (.cond (.seq (.reg .seq) .leaf) .leaf)) (.seq (.seq (.reg .seq) (.block (.loop [(4, (.one (.int .i64)))] [1, 3] (.seq (.seq (.reg .seq) (.cond .leaf .leaf)) (.seq (.block (.seq (.reg (.tail 8)) (.cond (.seq (.reg .seq) .leaf) .leaf))) (.reg .seq)))))) (.seq (.seq (.reg .seq) (.cond (.seq (.reg .seq) .leaf) .leaf)) (.seq (.reg .seq) .leaf))))))
set_option maxRecDepth 100000 in
theorem T43 (o1 : ByteArray × Slc × ByteArray) (w : World) (R : Int → World → Prop) (h : S43 o1 w R) : C43 (o1.1, o1.2.1, o1.2.2) w R := by
  have e : fnT Tryd.prog ⟨FF, MAY, (fun _ _ => False)⟩ pl43 Tryd.f43 [.agg #[.string o1.1, Slc.v o1.2.1, .string o1.2.2]] w [(.one (.int .i64))] (fun s w => R s w) = S43 o1 w R := by kernel_rfl
  exact (fn_calls okF okM Tryd.func43 (by kernel_rfl) (by kernel_rfl) (e.mpr h)).mono fun _ _ ⟨s, he, hR⟩ => ⟨s, he, hR⟩

end Go.Proofs.YtjbeembbnkmpeaaDoor
