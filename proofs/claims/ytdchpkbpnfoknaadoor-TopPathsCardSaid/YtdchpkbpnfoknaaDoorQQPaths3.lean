/- The formulas of 12 functions of the program, written by program (gen.py); the kernel checks each. No condition. -/
import Derived.Test.YtdchpkbpnfoknaaDoorQQPaths2
import Derived.Laws.MakeOwn
import Derived.OpenShut
import Derived.ChangeArms
import Derived.WideShapes
namespace Go.Proofs.YtdchpkbpnfoknaaDoor
open Sh
set_option linter.unusedVariables false
set_option maxRecDepth 100000

def C30 (m1 : Option Addr) (w : World) (R : (Option Addr × Option Addr × Option Addr × Option Addr × Option Addr × Option Addr) → World → Prop) : Prop :=
  Calls Tryd.prog 30 #[.pointer m1] w fun e w' => ∃ r0 : Option Addr × Option Addr × Option Addr × Option Addr × Option Addr × Option Addr, e = .returned (.agg #[.pointer r0.1, .pointer r0.2.1, .pointer r0.2.2.1, .pointer r0.2.2.2.1, .pointer r0.2.2.2.2.1, .pointer r0.2.2.2.2.2]) ∧ R r0 w'
theorem C30.mono {m1 : Option Addr} {w : World} {R R' : (Option Addr × Option Addr × Option Addr × Option Addr × Option Addr × Option Addr) → World → Prop} (h : C30 m1 w R) (hr : ∀ r0 w', R r0 w' → R' r0 w') : C30 m1 w R' :=
  Calls.mono h fun _ _ ⟨r0, he, hR⟩ => ⟨r0, he, hr _ _ hR⟩
def C31 (n1 : Int) (w : World) (R : Bool → World → Prop) : Prop :=
  Calls Tryd.prog 31 #[.int .i64 n1] w fun e w' => ∃ r0 : Bool, e = .returned (.bool r0) ∧ R r0 w'
theorem C31.mono {n1 : Int} {w : World} {R R' : Bool → World → Prop} (h : C31 n1 w R) (hr : ∀ r0 w', R r0 w' → R' r0 w') : C31 n1 w R' :=
  Calls.mono h fun _ _ ⟨r0, he, hR⟩ => ⟨r0, he, hr _ _ hR⟩
def C9 (m1 : Int × Int × Int × Int × Int × Int) (w : World) (R : Int → World → Prop) : Prop :=
  Calls Tryd.prog 9 #[.agg #[.int .i64 (m1.1), .int .i64 (m1.2.1), .int .i64 (m1.2.2.1), .int .i64 (m1.2.2.2.1), .int .i64 (m1.2.2.2.2.1), .int .i64 (m1.2.2.2.2.2)]] w fun e w' => ∃ r0 : Int, e = .returned (.int .i64 r0) ∧ R r0 w'
theorem C9.mono {m1 : Int × Int × Int × Int × Int × Int} {w : World} {R R' : Int → World → Prop} (h : C9 m1 w R) (hr : ∀ r0 w', R r0 w' → R' r0 w') : C9 m1 w R' :=
  Calls.mono h fun _ _ ⟨r0, he, hR⟩ => ⟨r0, he, hr _ _ hR⟩
def C34 (x1 : Value) (why2 : Option Addr) (w : World) (R : World → Prop) (PR : Value → World → Prop) : Prop :=
  Calls Tryd.prog 34 #[x1, .pointer why2] w fun e w' => (e = .returned (.tuple #[]) ∧ R w') ∨ ∃ v, e = .panicked (onePanic v) ∧ PR v w'
theorem C34.mono {x1 : Value} {why2 : Option Addr} {w : World} {R R' : World → Prop} {PR PR' : Value → World → Prop} (h : C34 x1 why2 w R PR) (hr : ∀ w', R w' → R' w') (hp : ∀ v w', PR v w' → PR' v w') : C34 x1 why2 w R' PR' :=
  Calls.mono h fun _ _ he => he.elim (fun ⟨he, hR⟩ => .inl ⟨he, hr _ hR⟩) fun ⟨v, he, hP⟩ => .inr ⟨v, he, hp _ _ hP⟩
def CD33 (c1 : Addr) (c2 : Addr) (u : Option Value) (w : World) (R : World → Prop) : Prop := CallD Tryd.prog 33 #[.pointer (some c1), .pointer (some c2)] u w R
theorem CD33.mono {c1 : Addr} {c2 : Addr} {u : Option Value} {w : World} {R R' : World → Prop} (h : CD33 c1 c2 u w R) (hr : ∀ w', R w' → R' w') : CD33 c1 c2 u w R' :=
  CallsD.mono h fun _ _ _ ⟨h1, h2, h3⟩ => ⟨h1, h2, hr _ h3⟩
def C35 (why1 : Int) (w : World) (R : World → Prop) (PR : Value → World → Prop) : Prop :=
  Calls Tryd.prog 35 #[.int .i64 why1] w fun e w' => (e = .returned (.tuple #[]) ∧ R w') ∨ ∃ v, e = .panicked (onePanic v) ∧ PR v w'
theorem C35.mono {why1 : Int} {w : World} {R R' : World → Prop} {PR PR' : Value → World → Prop} (h : C35 why1 w R PR) (hr : ∀ w', R w' → R' w') (hp : ∀ v w', PR v w' → PR' v w') : C35 why1 w R' PR' :=
  Calls.mono h fun _ _ he => he.elim (fun ⟨he, hR⟩ => .inl ⟨he, hr _ hR⟩) fun ⟨v, he, hP⟩ => .inr ⟨v, he, hp _ _ hP⟩
def C36 (l1 : Slc) (w : World) (R : Int → World → Prop) (PR : Value → World → Prop) : Prop :=
  Calls Tryd.prog 36 #[Slc.v l1] w fun e w' => (∃ r0 : Int, e = .returned (.int .i64 r0) ∧ R r0 w') ∨ ∃ v, e = .panicked (onePanic v) ∧ PR v w'
theorem C36.mono {l1 : Slc} {w : World} {R R' : Int → World → Prop} {PR PR' : Value → World → Prop} (h : C36 l1 w R PR) (hr : ∀ r0 w', R r0 w' → R' r0 w') (hp : ∀ v w', PR v w' → PR' v w') : C36 l1 w R' PR' :=
  Calls.mono h fun _ _ he => he.elim (fun ⟨r0, he, hR⟩ => .inl ⟨r0, he, hr _ _ hR⟩) fun ⟨v, he, hP⟩ => .inr ⟨v, he, hp _ _ hP⟩
def C12 (a1 : Int × Int × Int × Int × Int × Int) (b2 : Int × Int × Int × Int × Int × Int) (w : World) (R : (Int × Int × Int × Int × Int × Int) → Int → World → Prop) : Prop :=
  Calls Tryd.prog 12 #[.agg #[.int .i64 (a1.1), .int .i64 (a1.2.1), .int .i64 (a1.2.2.1), .int .i64 (a1.2.2.2.1), .int .i64 (a1.2.2.2.2.1), .int .i64 (a1.2.2.2.2.2)], .agg #[.int .i64 (b2.1), .int .i64 (b2.2.1), .int .i64 (b2.2.2.1), .int .i64 (b2.2.2.2.1), .int .i64 (b2.2.2.2.2.1), .int .i64 (b2.2.2.2.2.2)]] w fun e w' => ∃ r0 : Int × Int × Int × Int × Int × Int, ∃ r1 : Int, e = .returned (.tuple #[.agg #[.int .i64 (r0.1), .int .i64 (r0.2.1), .int .i64 (r0.2.2.1), .int .i64 (r0.2.2.2.1), .int .i64 (r0.2.2.2.2.1), .int .i64 (r0.2.2.2.2.2)], .int .i64 r1]) ∧ R r0 r1 w'
theorem C12.mono {a1 : Int × Int × Int × Int × Int × Int} {b2 : Int × Int × Int × Int × Int × Int} {w : World} {R R' : (Int × Int × Int × Int × Int × Int) → Int → World → Prop} (h : C12 a1 b2 w R) (hr : ∀ r0 r1 w', R r0 r1 w' → R' r0 r1 w') : C12 a1 b2 w R' :=
  Calls.mono h fun _ _ ⟨r0, r1, he, hR⟩ => ⟨r0, r1, he, hr _ _ _ hR⟩
def CD83 (c1 : Addr) (c2 : Addr) (u : Option Value) (w : World) (R : World → Prop) : Prop := CallD Tryd.prog 83 #[.pointer (some c1), .pointer (some c2)] u w R
theorem CD83.mono {c1 : Addr} {c2 : Addr} {u : Option Value} {w : World} {R R' : World → Prop} (h : CD83 c1 c2 u w R) (hr : ∀ w', R w' → R' w') : CD83 c1 c2 u w R' :=
  CallsD.mono h fun _ _ _ ⟨h1, h2, h3⟩ => ⟨h1, h2, hr _ h3⟩
def C78 (m1 : Int × Int × Int × Int × Int × Int) (p2 : Int × Int) (w : World) (R : (Int × Int) → Int → World → Prop) : Prop :=
  Calls Tryd.prog 78 #[.agg #[.int .i64 (m1.1), .int .i64 (m1.2.1), .int .i64 (m1.2.2.1), .int .i64 (m1.2.2.2.1), .int .i64 (m1.2.2.2.2.1), .int .i64 (m1.2.2.2.2.2)], .agg #[.int .i64 (p2.1), .int .i64 (p2.2)]] w fun e w' => ∃ r0 : Int × Int, ∃ r1 : Int, e = .returned (.tuple #[.agg #[.int .i64 (r0.1), .int .i64 (r0.2)], .int .i64 r1]) ∧ R r0 r1 w'
theorem C78.mono {m1 : Int × Int × Int × Int × Int × Int} {p2 : Int × Int} {w : World} {R R' : (Int × Int) → Int → World → Prop} (h : C78 m1 p2 w R) (hr : ∀ r0 r1 w', R r0 r1 w' → R' r0 r1 w') : C78 m1 p2 w R' :=
  Calls.mono h fun _ _ ⟨r0, r1, he, hR⟩ => ⟨r0, r1, he, hr _ _ _ hR⟩
def C7 (w : World) (R : (Int × Int × Int × Int × Int × Int) → World → Prop) : Prop :=
  Calls Tryd.prog 7 #[] w fun e w' => ∃ r0 : Int × Int × Int × Int × Int × Int, e = .returned (.agg #[.int .i64 (r0.1), .int .i64 (r0.2.1), .int .i64 (r0.2.2.1), .int .i64 (r0.2.2.2.1), .int .i64 (r0.2.2.2.2.1), .int .i64 (r0.2.2.2.2.2)]) ∧ R r0 w'
theorem C7.mono {w : World} {R R' : (Int × Int × Int × Int × Int × Int) → World → Prop} (h : C7 w R) (hr : ∀ r0 w', R r0 w' → R' r0 w') : C7 w R' :=
  Calls.mono h fun _ _ ⟨r0, he, hR⟩ => ⟨r0, he, hr _ _ hR⟩
def C13 (x1 : Int) (y2 : Int) (w : World) (R : (Int × Int × Int × Int × Int × Int) → World → Prop) : Prop :=
  Calls Tryd.prog 13 #[.int .i64 x1, .int .i64 y2] w fun e w' => ∃ r0 : Int × Int × Int × Int × Int × Int, e = .returned (.agg #[.int .i64 (r0.1), .int .i64 (r0.2.1), .int .i64 (r0.2.2.1), .int .i64 (r0.2.2.2.1), .int .i64 (r0.2.2.2.2.1), .int .i64 (r0.2.2.2.2.2)]) ∧ R r0 w'
theorem C13.mono {x1 : Int} {y2 : Int} {w : World} {R R' : (Int × Int × Int × Int × Int × Int) → World → Prop} (h : C13 x1 y2 w R) (hr : ∀ r0 w', R r0 w' → R' r0 w') : C13 x1 y2 w R' :=
  Calls.mono h fun _ _ ⟨r0, he, hR⟩ => ⟨r0, he, hr _ _ hR⟩

/-- foliant/matrix.parts -/
def S30 (m1 : Option Addr) (w : World) (R : (Option Addr × Option Addr × Option Addr × Option Addr × Option Addr × Option Addr) → World → Prop) : Prop :=
  Nw w (.cells #[.pointer none, .pointer none, .pointer none, .pointer none, .pointer none, .pointer none] 86) fun vw2 =>
  Nn m1 fun a3 =>
  Nn m1 fun a4 =>
  Nn m1 fun a5 =>
  Nn m1 fun a6 =>
  Nn m1 fun a7 =>
  Nn m1 fun a8 =>
  St vw2.drew (⟨w.heap.size, 0, none⟩ : Addr) (.pointer (some a3)) fun vw9 =>
  St vw9 ((⟨w.heap.size, 0, none⟩ : Addr).add 1) (.pointer (some (a4.add 1))) fun vw10 =>
  St vw10 ((⟨w.heap.size, 0, none⟩ : Addr).add 2) (.pointer (some (a5.add 2))) fun vw11 =>
  St vw11 ((⟨w.heap.size, 0, none⟩ : Addr).add 3) (.pointer (some (a6.add 3))) fun vw12 =>
  St vw12 ((⟨w.heap.size, 0, none⟩ : Addr).add 4) (.pointer (some (a7.add 4))) fun vw13 =>
  St vw13 ((⟨w.heap.size, 0, none⟩ : Addr).add 5) (.pointer (some (a8.add 5))) fun vw14 =>
  Ld vw14 (⟨w.heap.size, 0, none⟩ : Addr) Value.pointer fun (x15 : Option Addr) =>
  Ld vw14 ((⟨w.heap.size, 0, none⟩ : Addr).add 1) Value.pointer fun (x16 : Option Addr) =>
  Ld vw14 ((⟨w.heap.size, 0, none⟩ : Addr).add 2) Value.pointer fun (x17 : Option Addr) =>
  Ld vw14 ((⟨w.heap.size, 0, none⟩ : Addr).add 3) Value.pointer fun (x18 : Option Addr) =>
  Ld vw14 ((⟨w.heap.size, 0, none⟩ : Addr).add 4) Value.pointer fun (x19 : Option Addr) =>
  Ld vw14 ((⟨w.heap.size, 0, none⟩ : Addr).add 5) Value.pointer fun (x20 : Option Addr) =>
  R (x15, x16, x17, x18, x19, x20) vw14
def pl30 : Plan := (.seq (.reg .seq) (.seq (.reg (.tail 18)) .leaf))
set_option maxRecDepth 100000 in
theorem T30 (m1 : Option Addr) (w : World) (R : (Option Addr × Option Addr × Option Addr × Option Addr × Option Addr × Option Addr) → World → Prop) (h : S30 m1 w R) : C30 m1 w R := by
  have e : fnT Tryd.prog ⟨FF, MAY, (fun _ _ => False)⟩ pl30 Tryd.f30 [.pointer m1] w [(.agg [.ptr, .ptr, .ptr, .ptr, .ptr, .ptr])] (fun s w => R s w) = S30 m1 w R := by kernel_rfl
  exact (fn_calls okF okM Tryd.func30 (by kernel_rfl) (by kernel_rfl) (e.mpr h)).mono fun _ _ ⟨s, he, hR⟩ => ⟨s, he, hR⟩

/-- foliant/matrix.out -/
def S31 (n1 : Int) (w : World) (R : Bool → World → Prop) : Prop :=
  Br (decide (n1 < (-1073741824))) (R true w) (R (decide (n1 > 1073741824)) w)
def pl31 : Plan := (.seq (.reg .seq) (.seq (.reg .seq) .leaf))
set_option maxRecDepth 100000 in
theorem T31 (n1 : Int) (w : World) (R : Bool → World → Prop) (h : S31 n1 w R) : C31 n1 w R := by
  have e : fnT Tryd.prog ⟨FF, MAY, (fun _ _ => False)⟩ pl31 Tryd.f31 [.int .i64 n1] w [(.one .bool)] (fun s w => R s w) = S31 n1 w R := by kernel_rfl
  exact (fn_calls okF okM Tryd.func31 (by kernel_rfl) (by kernel_rfl) (e.mpr h)).mono fun _ _ ⟨s, he, hR⟩ => ⟨s, he, hR⟩

def S9L1 (r3 : Option Addr × Option Addr × Option Addr × Option Addr × Option Addr × Option Addr) (R : Int → World → Prop) (I7 : Int → World → Prop) (s5 : Int) (vw6 : World) : Prop :=
  Br (decide (s5 < 6)) (0 ≤ s5 ∧ s5 < (6 : Nat) ∧ ∃ x8 : Option Addr, (#[.pointer r3.1, .pointer r3.2.1, .pointer r3.2.2.1, .pointer r3.2.2.2.1, .pointer r3.2.2.2.2.1, .pointer r3.2.2.2.2.2] : Array Value)[(s5).toNat * 1]? = some (.pointer x8) ∧ Nn x8 fun a9 =>
    Ld vw6 a9 (Value.int .i64) fun (x10 : Int) =>
    C31 x10 vw6 fun r11 vw12 =>
      Br r11 (R 2 vw12) (I7 (IntKind.i64.wrap (s5 + 1)) vw12)) (R 0 vw6)
/-- foliant/matrix.Check -/
def S9 (m1 : Int × Int × Int × Int × Int × Int) (w : World) (R : Int → World → Prop) : Prop :=
  Nw w (.cells #[.int .i64 (m1.1), .int .i64 (m1.2.1), .int .i64 (m1.2.2.1), .int .i64 (m1.2.2.2.1), .int .i64 (m1.2.2.2.2.1), .int .i64 (m1.2.2.2.2.2)] 23) fun vw2 =>
  C30 (some (⟨w.heap.size, 0, none⟩ : Addr)) vw2 fun r3 vw4 =>
    Lp (σ := Int) (S9L1 r3 R) 0 vw4
def pl9 : Plan := (.seq (.reg .seq) (.seq (.seq (.reg .seq) (.block (.loop [(6, (.one (.int .i64)))] [5] (.seq (.reg .seq) (.seq (.cond .leaf .leaf) (.seq (.block (.seq (.reg .seq) (.seq (.reg .seq) (.cond (.seq (.reg .seq) .leaf) .leaf)))) (.reg .seq))))))) (.seq (.reg .seq) .leaf)))
set_option maxRecDepth 100000 in
theorem T9 (m1 : Int × Int × Int × Int × Int × Int) (w : World) (R : Int → World → Prop) (h : S9 m1 w R) : C9 (m1.1, m1.2.1, m1.2.2.1, m1.2.2.2.1, m1.2.2.2.2.1, m1.2.2.2.2.2) w R := by
  have e : fnT Tryd.prog ⟨FF, MAY, (fun _ _ => False)⟩ pl9 Tryd.f9 [.agg #[.int .i64 (m1.1), .int .i64 (m1.2.1), .int .i64 (m1.2.2.1), .int .i64 (m1.2.2.2.1), .int .i64 (m1.2.2.2.2.1), .int .i64 (m1.2.2.2.2.2)]] w [(.one (.int .i64))] (fun s w => R s w) = S9 m1 w R := by kernel_rfl
  exact (fn_calls okF okM Tryd.func9 (by kernel_rfl) (by kernel_rfl) (e.mpr h)).mono fun _ _ ⟨s, he, hR⟩ => ⟨s, he, hR⟩

/-- foliant/matrix.caught -/
def S34_nil (why2 : Option Addr) (w : World) (R : World → Prop) (PR : Value → World → Prop) : Prop :=
  R w
def pl34_nil : Plan := (.seq (.reg .seq) (.block (.seq (.reg .seq) (.cond (.reg .seq) (.seq (.reg .seq) (.cond (.seq (.reg .seq) (.reg .seq)) (.seq (.reg .seq) (.reg .seq))))))))
set_option maxRecDepth 100000 in
theorem T34_nil (why2 : Option Addr) (w : World) (R : World → Prop) (PR : Value → World → Prop) (h : S34_nil why2 w R PR) : C34 Value.nilIface why2 w R PR := by
  have e : fnT Tryd.prog ⟨FF, MAY, PR⟩ pl34_nil Tryd.f34 [Value.nilIface, .pointer why2] w [] (fun _ w => R w) = S34_nil why2 w R PR := by kernel_rfl
  exact (fn_callsP okF okM Tryd.func34 (by kernel_rfl) (by kernel_rfl) (e.mpr h)).mono fun _ _ he => he.elim (fun ⟨_, he, hR⟩ => .inl ⟨he, hR⟩) .inr

/-- foliant/matrix.caught -/
def S34_T110 (x2 : Int) (why3 : Option Addr) (w : World) (R : World → Prop) (PR : Value → World → Prop) : Prop :=
  Nw w (.cells #[.int .i64 0] 110) fun vw4 =>
  St vw4 (⟨w.heap.size, 0, none⟩ : Addr) (.int .i64 x2) fun vw5 =>
  Ld vw5 (⟨w.heap.size, 0, none⟩ : Addr) (Value.int .i64) fun (x6 : Int) =>
  Nn why3 fun a7 =>
  St vw5 a7 (.int .i64 x6) fun vw8 =>
  R vw8
def pl34_T110 : Plan := (.seq (.reg .seq) (.block (.seq (.reg .seq) (.cond (.reg .seq) (.seq (.reg .seq) (.cond (.seq (.reg .seq) (.reg .seq)) (.seq (.reg .seq) (.reg .seq))))))))
set_option maxRecDepth 100000 in
theorem T34_T110 (x2 : Int) (why3 : Option Addr) (w : World) (R : World → Prop) (PR : Value → World → Prop) (h : S34_T110 x2 why3 w R PR) : C34 (.iface 110 (.agg #[.int .i64 x2])) why3 w R PR := by
  have e : fnT Tryd.prog ⟨FF, MAY, PR⟩ pl34_T110 Tryd.f34 [.iface 110 (.agg #[.int .i64 x2]), .pointer why3] w [] (fun _ w => R w) = S34_T110 x2 why3 w R PR := by kernel_rfl
  exact (fn_callsP okF okM Tryd.func34 (by kernel_rfl) (by kernel_rfl) (e.mpr h)).mono fun _ _ he => he.elim (fun ⟨_, he, hR⟩ => .inl ⟨he, hR⟩) .inr

/-- foliant/matrix.Mul$1 -/
def S33_nil (c1 : Addr) (c2 : Addr) (w : World) (R : World → Prop) : Prop :=
  C34 Value.nilIface (some c1) w (fun vw3 =>
    Ld vw3 c1 (Value.int .i64) fun (x4 : Int) =>
    Br (x4 != 0) (St vw3 c2 (.int .i64 0) fun vw5 =>
      St vw5 (c2.add 1) (.int .i64 0) fun vw6 =>
      St vw6 (c2.add 2) (.int .i64 0) fun vw7 =>
      St vw7 (c2.add 3) (.int .i64 0) fun vw8 =>
      St vw8 (c2.add 4) (.int .i64 0) fun vw9 =>
      St vw9 (c2.add 5) (.int .i64 0) fun vw10 =>
      R vw10) (R vw3)) (fun _ _ => False)
def pl33_nil : Plan := (.seq (.reg .seq) (.cond (.reg .seq) .leaf))
set_option maxRecDepth 100000 in
theorem T33_nil (c1 : Addr) (c2 : Addr) (w : World) (R : World → Prop) (h : S33_nil c1 c2 w R) : CD33 c1 c2 none w R := by
  have e : fnTS Tryd.prog FF MAY pl33_nil Tryd.f33 [.pointer (some c1), .pointer (some c2)] none w R = S33_nil c1 c2 w R := by kernel_rfl
  exact fnS_calls okF okM Tryd.func33 (by kernel_rfl) (by kernel_rfl) (e.mpr h)

/-- foliant/matrix.Mul$1 -/
def S33_T110 (c1 : Addr) (c2 : Addr) (u3 : Int) (w : World) (R : World → Prop) : Prop :=
  C34 (.iface 110 (.agg #[.int .i64 u3])) (some c1) w (fun vw4 =>
    Ld vw4 c1 (Value.int .i64) fun (x5 : Int) =>
    Br (x5 != 0) (St vw4 c2 (.int .i64 0) fun vw6 =>
      St vw6 (c2.add 1) (.int .i64 0) fun vw7 =>
      St vw7 (c2.add 2) (.int .i64 0) fun vw8 =>
      St vw8 (c2.add 3) (.int .i64 0) fun vw9 =>
      St vw9 (c2.add 4) (.int .i64 0) fun vw10 =>
      St vw10 (c2.add 5) (.int .i64 0) fun vw11 =>
      R vw11) (R vw4)) (fun _ _ => False)
def pl33_T110 : Plan := (.seq (.reg .seq) (.cond (.reg .seq) .leaf))
set_option maxRecDepth 100000 in
theorem T33_T110 (c1 : Addr) (c2 : Addr) (u3 : Int) (w : World) (R : World → Prop) (h : S33_T110 c1 c2 u3 w R) : CD33 c1 c2 (some (.iface 110 (.agg #[.int .i64 u3]))) w R := by
  have e : fnTS Tryd.prog FF MAY pl33_T110 Tryd.f33 [.pointer (some c1), .pointer (some c2)] (some (.iface 110 (.agg #[.int .i64 u3]))) w R = S33_T110 c1 c2 u3 w R := by kernel_rfl
  exact fnS_calls okF okM Tryd.func33 (by kernel_rfl) (by kernel_rfl) (e.mpr h)

/-- foliant/matrix.need -/
def S35 (why1 : Int) (w : World) (R : World → Prop) (PR : Value → World → Prop) : Prop :=
  Br (why1 != 0) (PR (.iface 110 (.agg #[.int .i64 why1])) w) (R w)
def pl35 : Plan := (.seq (.reg .seq) (.cond (.reg .seq) .leaf))
set_option maxRecDepth 100000 in
theorem T35 (why1 : Int) (w : World) (R : World → Prop) (PR : Value → World → Prop) (h : S35 why1 w R PR) : C35 why1 w R PR := by
  have e : fnT Tryd.prog ⟨FF, MAY, PR⟩ pl35 Tryd.f35 [.int .i64 why1] w [] (fun _ w => R w) = S35 why1 w R PR := by kernel_rfl
  exact (fn_callsP okF okM Tryd.func35 (by kernel_rfl) (by kernel_rfl) (e.mpr h)).mono fun _ _ he => he.elim (fun ⟨_, he, hR⟩ => .inl ⟨he, hR⟩) .inr

/-- foliant/matrix.dot -/
def S36 (l1 : Slc) (w : World) (R : Int → World → Prop) (PR : Value → World → Prop) : Prop :=
  C51 l1 w fun r2 r3 vw4 =>
    C35 r3 vw4 (fun vw5 =>
      C31 r2 vw5 fun r6 vw7 =>
        Br r6 (C35 2 vw7 (fun vw8 =>
            R r2 vw8) PR) (R r2 vw7)) PR
def pl36 : Plan := (.seq (.reg .seq) (.seq (.reg .seq) (.seq (.reg .seq) (.seq (.seq (.reg .seq) (.cond (.reg .seq) .leaf)) (.seq (.reg .seq) .leaf)))))
set_option maxRecDepth 100000 in
theorem T36 (l1 : Slc) (w : World) (R : Int → World → Prop) (PR : Value → World → Prop) (h : S36 l1 w R PR) : C36 l1 w R PR := by
  have e : fnT Tryd.prog ⟨FF, MAY, PR⟩ pl36 Tryd.f36 [Slc.v l1] w [(.one (.int .i64))] (fun s w => R s w) = S36 l1 w R PR := by kernel_rfl
  exact (fn_callsP okF okM Tryd.func36 (by kernel_rfl) (by kernel_rfl) (e.mpr h)).mono fun _ _ he => he.elim (fun ⟨s, he, hR⟩ => .inl ⟨s, he, hR⟩) .inr

def S12P (vw4 : World) (vw5 : World) (R : (Int × Int × Int × Int × Int × Int) → Int → World → Prop) (x8 : Value) (vw7 : World) : Prop :=
  CD33 (⟨vw5.heap.size, 0, none⟩ : Addr) (⟨vw4.heap.size, 0, none⟩ : Addr) (some x8) vw7 fun vw9 =>
    Ld vw9 (⟨vw4.heap.size, 0, none⟩ : Addr) (Value.int .i64) fun (x10 : Int) =>
    Ld vw9 ((⟨vw4.heap.size, 0, none⟩ : Addr).add 1) (Value.int .i64) fun (x11 : Int) =>
    Ld vw9 ((⟨vw4.heap.size, 0, none⟩ : Addr).add 2) (Value.int .i64) fun (x12 : Int) =>
    Ld vw9 ((⟨vw4.heap.size, 0, none⟩ : Addr).add 3) (Value.int .i64) fun (x13 : Int) =>
    Ld vw9 ((⟨vw4.heap.size, 0, none⟩ : Addr).add 4) (Value.int .i64) fun (x14 : Int) =>
    Ld vw9 ((⟨vw4.heap.size, 0, none⟩ : Addr).add 5) (Value.int .i64) fun (x15 : Int) =>
    Ld vw9 (⟨vw5.heap.size, 0, none⟩ : Addr) (Value.int .i64) fun (x16 : Int) =>
    R (x10, x11, x12, x13, x14, x15) x16 vw9
/-- foliant/matrix.Mul -/
def S12 (a1 : Int × Int × Int × Int × Int × Int) (b2 : Int × Int × Int × Int × Int × Int) (w : World) (R : (Int × Int × Int × Int × Int × Int) → Int → World → Prop) : Prop :=
  Nw w (.cells #[.int .i64 (a1.1), .int .i64 (a1.2.1), .int .i64 (a1.2.2.1), .int .i64 (a1.2.2.2.1), .int .i64 (a1.2.2.2.2.1), .int .i64 (a1.2.2.2.2.2)] 23) fun vw3 =>
  Nw vw3 (.cells #[.int .i64 (b2.1), .int .i64 (b2.2.1), .int .i64 (b2.2.2.1), .int .i64 (b2.2.2.2.1), .int .i64 (b2.2.2.2.2.1), .int .i64 (b2.2.2.2.2.2)] 23) fun vw4 =>
  Nw vw4 (.cells #[.int .i64 0, .int .i64 0, .int .i64 0, .int .i64 0, .int .i64 0, .int .i64 0] 23) fun vw5 =>
  Nw vw5 (.cells #[.int .i64 0] 26) fun vw6 =>
  Ld vw6 (⟨w.heap.size, 0, none⟩ : Addr) (Value.int .i64) fun (x17 : Int) =>
  Ld vw6 ((⟨w.heap.size, 0, none⟩ : Addr).add 1) (Value.int .i64) fun (x18 : Int) =>
  Ld vw6 ((⟨w.heap.size, 0, none⟩ : Addr).add 2) (Value.int .i64) fun (x19 : Int) =>
  Ld vw6 ((⟨w.heap.size, 0, none⟩ : Addr).add 3) (Value.int .i64) fun (x20 : Int) =>
  Ld vw6 ((⟨w.heap.size, 0, none⟩ : Addr).add 4) (Value.int .i64) fun (x21 : Int) =>
  Ld vw6 ((⟨w.heap.size, 0, none⟩ : Addr).add 5) (Value.int .i64) fun (x22 : Int) =>
  C9 (x17, x18, x19, x20, x21, x22) vw6 fun r23 vw24 =>
    C35 r23 vw24 (fun vw25 =>
      Ld vw25 (⟨vw3.heap.size, 0, none⟩ : Addr) (Value.int .i64) fun (x26 : Int) =>
      Ld vw25 ((⟨vw3.heap.size, 0, none⟩ : Addr).add 1) (Value.int .i64) fun (x27 : Int) =>
      Ld vw25 ((⟨vw3.heap.size, 0, none⟩ : Addr).add 2) (Value.int .i64) fun (x28 : Int) =>
      Ld vw25 ((⟨vw3.heap.size, 0, none⟩ : Addr).add 3) (Value.int .i64) fun (x29 : Int) =>
      Ld vw25 ((⟨vw3.heap.size, 0, none⟩ : Addr).add 4) (Value.int .i64) fun (x30 : Int) =>
      Ld vw25 ((⟨vw3.heap.size, 0, none⟩ : Addr).add 5) (Value.int .i64) fun (x31 : Int) =>
      C9 (x26, x27, x28, x29, x30, x31) vw25 fun r32 vw33 =>
        C35 r32 vw33 (fun vw34 =>
          ∃ vS35 : World → Prop, vS35 vw34.drew ∧ LdS vS35 (⟨w.heap.size, 0, none⟩ : Addr) (Value.int .i64) fun (x36 : Int) =>
          LdS vS35 (⟨vw3.heap.size, 0, none⟩ : Addr) (Value.int .i64) fun (x37 : Int) =>
          LdS vS35 ((⟨w.heap.size, 0, none⟩ : Addr).add 1) (Value.int .i64) fun (x38 : Int) =>
          LdS vS35 ((⟨vw3.heap.size, 0, none⟩ : Addr).add 2) (Value.int .i64) fun (x39 : Int) =>
          LdS vS35 (⟨w.heap.size, 0, none⟩ : Addr) (Value.int .i64) fun (x40 : Int) =>
          LdS vS35 ((⟨vw3.heap.size, 0, none⟩ : Addr).add 1) (Value.int .i64) fun (x41 : Int) =>
          LdS vS35 ((⟨w.heap.size, 0, none⟩ : Addr).add 1) (Value.int .i64) fun (x42 : Int) =>
          LdS vS35 ((⟨vw3.heap.size, 0, none⟩ : Addr).add 3) (Value.int .i64) fun (x43 : Int) =>
          LdS vS35 ((⟨w.heap.size, 0, none⟩ : Addr).add 2) (Value.int .i64) fun (x44 : Int) =>
          LdS vS35 (⟨vw3.heap.size, 0, none⟩ : Addr) (Value.int .i64) fun (x45 : Int) =>
          LdS vS35 ((⟨w.heap.size, 0, none⟩ : Addr).add 3) (Value.int .i64) fun (x46 : Int) =>
          LdS vS35 ((⟨vw3.heap.size, 0, none⟩ : Addr).add 2) (Value.int .i64) fun (x47 : Int) =>
          LdS vS35 ((⟨w.heap.size, 0, none⟩ : Addr).add 2) (Value.int .i64) fun (x48 : Int) =>
          LdS vS35 ((⟨vw3.heap.size, 0, none⟩ : Addr).add 1) (Value.int .i64) fun (x49 : Int) =>
          LdS vS35 ((⟨w.heap.size, 0, none⟩ : Addr).add 3) (Value.int .i64) fun (x50 : Int) =>
          LdS vS35 ((⟨vw3.heap.size, 0, none⟩ : Addr).add 3) (Value.int .i64) fun (x51 : Int) =>
          LdS vS35 ((⟨w.heap.size, 0, none⟩ : Addr).add 4) (Value.int .i64) fun (x52 : Int) =>
          LdS vS35 (⟨vw3.heap.size, 0, none⟩ : Addr) (Value.int .i64) fun (x53 : Int) =>
          LdS vS35 ((⟨w.heap.size, 0, none⟩ : Addr).add 5) (Value.int .i64) fun (x54 : Int) =>
          LdS vS35 ((⟨vw3.heap.size, 0, none⟩ : Addr).add 2) (Value.int .i64) fun (x55 : Int) =>
          LdS vS35 ((⟨vw3.heap.size, 0, none⟩ : Addr).add 4) (Value.int .i64) fun (x56 : Int) =>
          LdS vS35 ((⟨w.heap.size, 0, none⟩ : Addr).add 4) (Value.int .i64) fun (x57 : Int) =>
          LdS vS35 ((⟨vw3.heap.size, 0, none⟩ : Addr).add 1) (Value.int .i64) fun (x58 : Int) =>
          LdS vS35 ((⟨w.heap.size, 0, none⟩ : Addr).add 5) (Value.int .i64) fun (x59 : Int) =>
          LdS vS35 ((⟨vw3.heap.size, 0, none⟩ : Addr).add 3) (Value.int .i64) fun (x60 : Int) =>
          LdS vS35 ((⟨vw3.heap.size, 0, none⟩ : Addr).add 5) (Value.int .i64) fun (x61 : Int) =>
          ∃ le62 : World → World → Prop, ∃ B63 : World → Prop, B63 vw34.drew ∧ ∃ G64 : Slc → World → Prop, (∀ (x65 : Slc) (vw66 : World) (vw67 : World), le62 vw66 vw67 → G64 x65 vw66 → G64 x65 vw67) ∧
          ∃ G68 : Int → World → Prop, (∀ (x69 : Int) (vw70 : World) (vw71 : World), le62 vw70 vw71 → G68 x69 vw70 → G68 x69 vw71) ∧
          ∃ G72 : Slc → World → Prop, (∀ (x73 : Slc) (vw74 : World) (vw75 : World), le62 vw74 vw75 → G72 x73 vw74 → G72 x73 vw75) ∧
          ∃ G76 : Int → World → Prop, (∀ (x77 : Int) (vw78 : World) (vw79 : World), le62 vw78 vw79 → G76 x77 vw78 → G76 x77 vw79) ∧
          ∃ G80 : Slc → World → Prop, (∀ (x81 : Slc) (vw82 : World) (vw83 : World), le62 vw82 vw83 → G80 x81 vw82 → G80 x81 vw83) ∧
          ∃ G84 : Int → World → Prop, (∀ (x85 : Int) (vw86 : World) (vw87 : World), le62 vw86 vw87 → G84 x85 vw86 → G84 x85 vw87) ∧
          ∃ G88 : Slc → World → Prop, (∀ (x89 : Slc) (vw90 : World) (vw91 : World), le62 vw90 vw91 → G88 x89 vw90 → G88 x89 vw91) ∧
          ∃ G92 : Int → World → Prop, (∀ (x93 : Int) (vw94 : World) (vw95 : World), le62 vw94 vw95 → G92 x93 vw94 → G92 x93 vw95) ∧
          ∃ G96 : Slc → World → Prop, (∀ (x97 : Slc) (vw98 : World) (vw99 : World), le62 vw98 vw99 → G96 x97 vw98 → G96 x97 vw99) ∧
          ∃ G100 : Int → World → Prop, (∀ (x101 : Int) (vw102 : World) (vw103 : World), le62 vw102 vw103 → G100 x101 vw102 → G100 x101 vw103) ∧
          ∃ G104 : Slc → World → Prop, (∀ (x105 : Slc) (vw106 : World) (vw107 : World), le62 vw106 vw107 → G104 x105 vw106 → G104 x105 vw107) ∧
          ((∀ (vw108 : World), vS35 vw108 → B63 vw108 → Nw vw108 (.cells #[.int .i64 x36, .int .i64 x37, .int .i64 x38, .int .i64 x39] 2) fun vw109 =>
            vS35 vw109 ∧ B63 vw109 ∧ le62 vw108 vw109 ∧ ∃ x110 : Slc, (Slc.v ((⟨some ⟨vw108.heap.size, 0, none⟩, 4, 4⟩ : Slc)) : Value) = Slc.v x110 ∧ G64 x110 vw109) ∧
          (∀ (vw111 : World), vS35 vw111 → B63 vw111 → ∀ (x112 : Slc), G64 x112 vw111 → C36 x112 vw111 (fun r113 vw114 =>
              vS35 vw114 ∧ B63 vw114 ∧ le62 vw111 vw114 ∧ ∃ x115 : Int, (.int .i64 r113 : Value) = .int .i64 x115 ∧ G68 x115 vw114) (S12P vw4 vw5 R)) ∧
          (∀ (vw116 : World), vS35 vw116 → B63 vw116 → Nw vw116 (.cells #[.int .i64 x40, .int .i64 x41, .int .i64 x42, .int .i64 x43] 2) fun vw117 =>
            vS35 vw117 ∧ B63 vw117 ∧ le62 vw116 vw117 ∧ ∃ x118 : Slc, (Slc.v ((⟨some ⟨vw116.heap.size, 0, none⟩, 4, 4⟩ : Slc)) : Value) = Slc.v x118 ∧ G72 x118 vw117) ∧
          (∀ (vw119 : World), vS35 vw119 → B63 vw119 → ∀ (x120 : Slc), G72 x120 vw119 → C36 x120 vw119 (fun r121 vw122 =>
              vS35 vw122 ∧ B63 vw122 ∧ le62 vw119 vw122 ∧ ∃ x123 : Int, (.int .i64 r121 : Value) = .int .i64 x123 ∧ G76 x123 vw122) (S12P vw4 vw5 R)) ∧
          (∀ (vw124 : World), vS35 vw124 → B63 vw124 → Nw vw124 (.cells #[.int .i64 x44, .int .i64 x45, .int .i64 x46, .int .i64 x47] 2) fun vw125 =>
            vS35 vw125 ∧ B63 vw125 ∧ le62 vw124 vw125 ∧ ∃ x126 : Slc, (Slc.v ((⟨some ⟨vw124.heap.size, 0, none⟩, 4, 4⟩ : Slc)) : Value) = Slc.v x126 ∧ G80 x126 vw125) ∧
          (∀ (vw127 : World), vS35 vw127 → B63 vw127 → ∀ (x128 : Slc), G80 x128 vw127 → C36 x128 vw127 (fun r129 vw130 =>
              vS35 vw130 ∧ B63 vw130 ∧ le62 vw127 vw130 ∧ ∃ x131 : Int, (.int .i64 r129 : Value) = .int .i64 x131 ∧ G84 x131 vw130) (S12P vw4 vw5 R)) ∧
          (∀ (vw132 : World), vS35 vw132 → B63 vw132 → Nw vw132 (.cells #[.int .i64 x48, .int .i64 x49, .int .i64 x50, .int .i64 x51] 2) fun vw133 =>
            vS35 vw133 ∧ B63 vw133 ∧ le62 vw132 vw133 ∧ ∃ x134 : Slc, (Slc.v ((⟨some ⟨vw132.heap.size, 0, none⟩, 4, 4⟩ : Slc)) : Value) = Slc.v x134 ∧ G88 x134 vw133) ∧
          (∀ (vw135 : World), vS35 vw135 → B63 vw135 → ∀ (x136 : Slc), G88 x136 vw135 → C36 x136 vw135 (fun r137 vw138 =>
              vS35 vw138 ∧ B63 vw138 ∧ le62 vw135 vw138 ∧ ∃ x139 : Int, (.int .i64 r137 : Value) = .int .i64 x139 ∧ G92 x139 vw138) (S12P vw4 vw5 R)) ∧
          (∀ (vw140 : World), vS35 vw140 → B63 vw140 → Nw vw140 (.cells #[.int .i64 x52, .int .i64 x53, .int .i64 x54, .int .i64 x55, .int .i64 x56, .int .i64 10000] 2) fun vw141 =>
            vS35 vw141 ∧ B63 vw141 ∧ le62 vw140 vw141 ∧ ∃ x142 : Slc, (Slc.v ((⟨some ⟨vw140.heap.size, 0, none⟩, 6, 6⟩ : Slc)) : Value) = Slc.v x142 ∧ G96 x142 vw141) ∧
          (∀ (vw143 : World), vS35 vw143 → B63 vw143 → ∀ (x144 : Slc), G96 x144 vw143 → C36 x144 vw143 (fun r145 vw146 =>
              vS35 vw146 ∧ B63 vw146 ∧ le62 vw143 vw146 ∧ ∃ x147 : Int, (.int .i64 r145 : Value) = .int .i64 x147 ∧ G100 x147 vw146) (S12P vw4 vw5 R)) ∧
          (∀ (vw148 : World), vS35 vw148 → B63 vw148 → Nw vw148 (.cells #[.int .i64 x57, .int .i64 x58, .int .i64 x59, .int .i64 x60, .int .i64 x61, .int .i64 10000] 2) fun vw149 =>
            vS35 vw149 ∧ B63 vw149 ∧ le62 vw148 vw149 ∧ ∃ x150 : Slc, (Slc.v ((⟨some ⟨vw148.heap.size, 0, none⟩, 6, 6⟩ : Slc)) : Value) = Slc.v x150 ∧ G104 x150 vw149) ∧
          True) ∧
          (∀ (vw151 : World), vS35 vw151 → B63 vw151 → ∀ (x152 : Slc), G64 x152 vw151 → ∀ (x153 : Int), G68 x153 vw151 → ∀ (x154 : Slc), G72 x154 vw151 → ∀ (x155 : Int), G76 x155 vw151 → ∀ (x156 : Slc), G80 x156 vw151 → ∀ (x157 : Int), G84 x157 vw151 → ∀ (x158 : Slc), G88 x158 vw151 → ∀ (x159 : Int), G92 x159 vw151 → ∀ (x160 : Slc), G96 x160 vw151 → ∀ (x161 : Int), G100 x161 vw151 → ∀ (x162 : Slc), G104 x162 vw151 → C36 x162 vw151 (fun r163 vw164 =>
              St vw164 (⟨vw4.heap.size, 0, none⟩ : Addr) (.int .i64 x153) fun vw165 =>
              St vw165 ((⟨vw4.heap.size, 0, none⟩ : Addr).add 1) (.int .i64 x155) fun vw166 =>
              St vw166 ((⟨vw4.heap.size, 0, none⟩ : Addr).add 2) (.int .i64 x157) fun vw167 =>
              St vw167 ((⟨vw4.heap.size, 0, none⟩ : Addr).add 3) (.int .i64 x159) fun vw168 =>
              St vw168 ((⟨vw4.heap.size, 0, none⟩ : Addr).add 4) (.int .i64 x161) fun vw169 =>
              St vw169 ((⟨vw4.heap.size, 0, none⟩ : Addr).add 5) (.int .i64 r163) fun vw170 =>
              St vw170 (⟨vw5.heap.size, 0, none⟩ : Addr) (.int .i64 0) fun vw171 =>
              CD33 (⟨vw5.heap.size, 0, none⟩ : Addr) (⟨vw4.heap.size, 0, none⟩ : Addr) none vw171 fun vw172 =>
                Ld vw172 (⟨vw4.heap.size, 0, none⟩ : Addr) (Value.int .i64) fun (x173 : Int) =>
                Ld vw172 ((⟨vw4.heap.size, 0, none⟩ : Addr).add 1) (Value.int .i64) fun (x174 : Int) =>
                Ld vw172 ((⟨vw4.heap.size, 0, none⟩ : Addr).add 2) (Value.int .i64) fun (x175 : Int) =>
                Ld vw172 ((⟨vw4.heap.size, 0, none⟩ : Addr).add 3) (Value.int .i64) fun (x176 : Int) =>
                Ld vw172 ((⟨vw4.heap.size, 0, none⟩ : Addr).add 4) (Value.int .i64) fun (x177 : Int) =>
                Ld vw172 ((⟨vw4.heap.size, 0, none⟩ : Addr).add 5) (Value.int .i64) fun (x178 : Int) =>
                Ld vw172 (⟨vw5.heap.size, 0, none⟩ : Addr) (Value.int .i64) fun (x179 : Int) =>
                R (x173, x174, x175, x176, x177, x178) x179 vw172) (S12P vw4 vw5 R))) (S12P vw4 vw5 R)) (S12P vw4 vw5 R)
def pl12 : DPlan := (.pre (.reg .seq) (.here [4, 5] (.seq (.reg .seq) (.seq (.reg .seq) (.seq (.reg (.held [63] (.take 0 (.take 1 (.take 2 (.take 3 (.take 4 (.take 5 (.take 6 (.take 7 (.take 10 (.take 11 (.take 12 (.take 13 (.take 14 (.take 15 (.take 16 (.take 17 (.take 20 (.take 21 (.take 22 (.take 23 (.take 24 (.take 25 (.take 26 (.take 27 (.take 30 (.take 31 (.take 32 (.take 33 (.take 34 (.take 35 (.take 36 (.take 37 (.take 40 (.take 41 (.take 42 (.take 43 (.take 44 (.take 45 (.take 46 (.take 47 (.take 48 (.take 49 (.take 52 (.take 53 (.take 54 (.take 55 (.take 56 (.take 57 (.take 58 (.take 59 (.take 60 (.take 61 (.mono [8, 9, 18, 19, 28, 29, 38, 39, 50, 51, 62] (.eff 63 (some [64]) (.eff 64 (some [65]) (.eff 65 (some [66]) (.eff 66 (some []) .done))))))))))))))))))))))))))))))))))))))))))))))))))))))))))) .leaf)))))
set_option maxRecDepth 100000 in
theorem T12 (a1 : Int × Int × Int × Int × Int × Int) (b2 : Int × Int × Int × Int × Int × Int) (w : World) (R : (Int × Int × Int × Int × Int × Int) → Int → World → Prop) (h : S12 a1 b2 w R) : C12 (a1.1, a1.2.1, a1.2.2.1, a1.2.2.2.1, a1.2.2.2.2.1, a1.2.2.2.2.2) (b2.1, b2.2.1, b2.2.2.1, b2.2.2.2.1, b2.2.2.2.2.1, b2.2.2.2.2.2) w R := by
  have e : fnTD Tryd.prog FF MAY (fun _ _ => False) pl12 Tryd.f12 [.agg #[.int .i64 (a1.1), .int .i64 (a1.2.1), .int .i64 (a1.2.2.1), .int .i64 (a1.2.2.2.1), .int .i64 (a1.2.2.2.2.1), .int .i64 (a1.2.2.2.2.2)], .agg #[.int .i64 (b2.1), .int .i64 (b2.2.1), .int .i64 (b2.2.2.1), .int .i64 (b2.2.2.2.1), .int .i64 (b2.2.2.2.2.1), .int .i64 (b2.2.2.2.2.2)]] w [(.agg [(.int .i64), (.int .i64), (.int .i64), (.int .i64), (.int .i64), (.int .i64)]), (.one (.int .i64))] (fun s w => R s.1 s.2 w) = S12 a1 b2 w R := by kernel_rfl
  exact (fnD_calls okF okM Tryd.func12 (by kernel_rfl) (by kernel_rfl) (e.mpr h)).mono fun _ _ ⟨s, he, hR⟩ => ⟨s.1, s.2, he, hR⟩

/-- foliant/matrix.Apply$1 -/
def S83_nil (c1 : Addr) (c2 : Addr) (w : World) (R : World → Prop) : Prop :=
  C34 Value.nilIface (some c1) w (fun vw3 =>
    Ld vw3 c1 (Value.int .i64) fun (x4 : Int) =>
    Br (x4 != 0) (St vw3 c2 (.int .i64 0) fun vw5 =>
      St vw5 (c2.add 1) (.int .i64 0) fun vw6 =>
      R vw6) (R vw3)) (fun _ _ => False)
def pl83_nil : Plan := (.seq (.reg .seq) (.cond (.reg .seq) .leaf))
set_option maxRecDepth 100000 in
theorem T83_nil (c1 : Addr) (c2 : Addr) (w : World) (R : World → Prop) (h : S83_nil c1 c2 w R) : CD83 c1 c2 none w R := by
  have e : fnTS Tryd.prog FF MAY pl83_nil Tryd.f83 [.pointer (some c1), .pointer (some c2)] none w R = S83_nil c1 c2 w R := by kernel_rfl
  exact fnS_calls okF okM Tryd.func83 (by kernel_rfl) (by kernel_rfl) (e.mpr h)

/-- foliant/matrix.Apply$1 -/
def S83_T110 (c1 : Addr) (c2 : Addr) (u3 : Int) (w : World) (R : World → Prop) : Prop :=
  C34 (.iface 110 (.agg #[.int .i64 u3])) (some c1) w (fun vw4 =>
    Ld vw4 c1 (Value.int .i64) fun (x5 : Int) =>
    Br (x5 != 0) (St vw4 c2 (.int .i64 0) fun vw6 =>
      St vw6 (c2.add 1) (.int .i64 0) fun vw7 =>
      R vw7) (R vw4)) (fun _ _ => False)
def pl83_T110 : Plan := (.seq (.reg .seq) (.cond (.reg .seq) .leaf))
set_option maxRecDepth 100000 in
theorem T83_T110 (c1 : Addr) (c2 : Addr) (u3 : Int) (w : World) (R : World → Prop) (h : S83_T110 c1 c2 u3 w R) : CD83 c1 c2 (some (.iface 110 (.agg #[.int .i64 u3]))) w R := by
  have e : fnTS Tryd.prog FF MAY pl83_T110 Tryd.f83 [.pointer (some c1), .pointer (some c2)] (some (.iface 110 (.agg #[.int .i64 u3]))) w R = S83_T110 c1 c2 u3 w R := by kernel_rfl
  exact fnS_calls okF okM Tryd.func83 (by kernel_rfl) (by kernel_rfl) (e.mpr h)

def S78P (vw4 : World) (vw5 : World) (R : (Int × Int) → Int → World → Prop) (x8 : Value) (vw7 : World) : Prop :=
  CD83 (⟨vw5.heap.size, 0, none⟩ : Addr) (⟨vw4.heap.size, 0, none⟩ : Addr) (some x8) vw7 fun vw9 =>
    Ld vw9 (⟨vw4.heap.size, 0, none⟩ : Addr) (Value.int .i64) fun (x10 : Int) =>
    Ld vw9 ((⟨vw4.heap.size, 0, none⟩ : Addr).add 1) (Value.int .i64) fun (x11 : Int) =>
    Ld vw9 (⟨vw5.heap.size, 0, none⟩ : Addr) (Value.int .i64) fun (x12 : Int) =>
    R (x10, x11) x12 vw9
def S78J1 (w : World) (vw3 : World) (vw4 : World) (vw5 : World) (R : (Int × Int) → Int → World → Prop) (s30 : Unit) (vw31 : World) : Prop :=
  ∃ vS32 : World → Prop, vS32 vw31.drew ∧ LdS vS32 (⟨vw3.heap.size, 0, none⟩ : Addr) (Value.int .i64) fun (x33 : Int) =>
  LdS vS32 (⟨w.heap.size, 0, none⟩ : Addr) (Value.int .i64) fun (x34 : Int) =>
  LdS vS32 ((⟨vw3.heap.size, 0, none⟩ : Addr).add 1) (Value.int .i64) fun (x35 : Int) =>
  LdS vS32 ((⟨w.heap.size, 0, none⟩ : Addr).add 2) (Value.int .i64) fun (x36 : Int) =>
  LdS vS32 ((⟨w.heap.size, 0, none⟩ : Addr).add 4) (Value.int .i64) fun (x37 : Int) =>
  LdS vS32 (⟨vw3.heap.size, 0, none⟩ : Addr) (Value.int .i64) fun (x38 : Int) =>
  LdS vS32 ((⟨w.heap.size, 0, none⟩ : Addr).add 1) (Value.int .i64) fun (x39 : Int) =>
  LdS vS32 ((⟨vw3.heap.size, 0, none⟩ : Addr).add 1) (Value.int .i64) fun (x40 : Int) =>
  LdS vS32 ((⟨w.heap.size, 0, none⟩ : Addr).add 3) (Value.int .i64) fun (x41 : Int) =>
  LdS vS32 ((⟨w.heap.size, 0, none⟩ : Addr).add 5) (Value.int .i64) fun (x42 : Int) =>
  (Nw vw31.drew (.cells #[.int .i64 x33, .int .i64 x34, .int .i64 x35, .int .i64 x36, .int .i64 x37, .int .i64 10000] 2) fun vw43 =>
    vS32 vw43 ∧ (C36 (⟨some ⟨vw31.drew.heap.size, 0, none⟩, 6, 6⟩ : Slc) vw43 (fun r44 vw45 =>
        vS32 vw45 ∧ Nw vw45 (.cells #[.int .i64 x38, .int .i64 x39, .int .i64 x40, .int .i64 x41, .int .i64 x42, .int .i64 10000] 2) fun vw46 =>
        vS32 vw46 ∧ C36 (⟨some ⟨vw45.heap.size, 0, none⟩, 6, 6⟩ : Slc) vw46 (fun r47 vw48 =>
          St vw48 (⟨vw4.heap.size, 0, none⟩ : Addr) (.int .i64 r44) fun vw49 =>
          St vw49 ((⟨vw4.heap.size, 0, none⟩ : Addr).add 1) (.int .i64 r47) fun vw50 =>
          St vw50 (⟨vw5.heap.size, 0, none⟩ : Addr) (.int .i64 0) fun vw51 =>
          CD83 (⟨vw5.heap.size, 0, none⟩ : Addr) (⟨vw4.heap.size, 0, none⟩ : Addr) none vw51 fun vw52 =>
            Ld vw52 (⟨vw4.heap.size, 0, none⟩ : Addr) (Value.int .i64) fun (x53 : Int) =>
            Ld vw52 ((⟨vw4.heap.size, 0, none⟩ : Addr).add 1) (Value.int .i64) fun (x54 : Int) =>
            Ld vw52 (⟨vw5.heap.size, 0, none⟩ : Addr) (Value.int .i64) fun (x55 : Int) =>
            R (x53, x54) x55 vw52) (S78P vw4 vw5 R)) (S78P vw4 vw5 R)) ∧
    (Nw vw43 (.cells #[.int .i64 x38, .int .i64 x39, .int .i64 x40, .int .i64 x41, .int .i64 x42, .int .i64 10000] 2) fun vw56 =>
      vS32 vw56 ∧ C36 (⟨some ⟨vw31.drew.heap.size, 0, none⟩, 6, 6⟩ : Slc) vw56 (fun r57 vw58 =>
        vS32 vw58 ∧ C36 (⟨some ⟨vw43.heap.size, 0, none⟩, 6, 6⟩ : Slc) vw58 (fun r59 vw60 =>
          St vw60 (⟨vw4.heap.size, 0, none⟩ : Addr) (.int .i64 r57) fun vw61 =>
          St vw61 ((⟨vw4.heap.size, 0, none⟩ : Addr).add 1) (.int .i64 r59) fun vw62 =>
          St vw62 (⟨vw5.heap.size, 0, none⟩ : Addr) (.int .i64 0) fun vw63 =>
          CD83 (⟨vw5.heap.size, 0, none⟩ : Addr) (⟨vw4.heap.size, 0, none⟩ : Addr) none vw63 fun vw64 =>
            Ld vw64 (⟨vw4.heap.size, 0, none⟩ : Addr) (Value.int .i64) fun (x65 : Int) =>
            Ld vw64 ((⟨vw4.heap.size, 0, none⟩ : Addr).add 1) (Value.int .i64) fun (x66 : Int) =>
            Ld vw64 (⟨vw5.heap.size, 0, none⟩ : Addr) (Value.int .i64) fun (x67 : Int) =>
            R (x65, x66) x67 vw64) (S78P vw4 vw5 R)) (S78P vw4 vw5 R))) ∧
  (Nw vw31.drew (.cells #[.int .i64 x38, .int .i64 x39, .int .i64 x40, .int .i64 x41, .int .i64 x42, .int .i64 10000] 2) fun vw68 =>
    vS32 vw68 ∧ Nw vw68 (.cells #[.int .i64 x33, .int .i64 x34, .int .i64 x35, .int .i64 x36, .int .i64 x37, .int .i64 10000] 2) fun vw69 =>
    vS32 vw69 ∧ C36 (⟨some ⟨vw68.heap.size, 0, none⟩, 6, 6⟩ : Slc) vw69 (fun r70 vw71 =>
      vS32 vw71 ∧ C36 (⟨some ⟨vw31.drew.heap.size, 0, none⟩, 6, 6⟩ : Slc) vw71 (fun r72 vw73 =>
        St vw73 (⟨vw4.heap.size, 0, none⟩ : Addr) (.int .i64 r70) fun vw74 =>
        St vw74 ((⟨vw4.heap.size, 0, none⟩ : Addr).add 1) (.int .i64 r72) fun vw75 =>
        St vw75 (⟨vw5.heap.size, 0, none⟩ : Addr) (.int .i64 0) fun vw76 =>
        CD83 (⟨vw5.heap.size, 0, none⟩ : Addr) (⟨vw4.heap.size, 0, none⟩ : Addr) none vw76 fun vw77 =>
          Ld vw77 (⟨vw4.heap.size, 0, none⟩ : Addr) (Value.int .i64) fun (x78 : Int) =>
          Ld vw77 ((⟨vw4.heap.size, 0, none⟩ : Addr).add 1) (Value.int .i64) fun (x79 : Int) =>
          Ld vw77 (⟨vw5.heap.size, 0, none⟩ : Addr) (Value.int .i64) fun (x80 : Int) =>
          R (x78, x79) x80 vw77) (S78P vw4 vw5 R)) (S78P vw4 vw5 R))
/-- foliant/matrix.Apply -/
def S78 (m1 : Int × Int × Int × Int × Int × Int) (p2 : Int × Int) (w : World) (R : (Int × Int) → Int → World → Prop) : Prop :=
  Nw w (.cells #[.int .i64 (m1.1), .int .i64 (m1.2.1), .int .i64 (m1.2.2.1), .int .i64 (m1.2.2.2.1), .int .i64 (m1.2.2.2.2.1), .int .i64 (m1.2.2.2.2.2)] 23) fun vw3 =>
  Nw vw3 (.cells #[.int .i64 (p2.1), .int .i64 (p2.2)] 36) fun vw4 =>
  Nw vw4 (.cells #[.int .i64 0, .int .i64 0] 36) fun vw5 =>
  Nw vw5 (.cells #[.int .i64 0] 26) fun vw6 =>
  Ld vw6 (⟨w.heap.size, 0, none⟩ : Addr) (Value.int .i64) fun (x13 : Int) =>
  Ld vw6 ((⟨w.heap.size, 0, none⟩ : Addr).add 1) (Value.int .i64) fun (x14 : Int) =>
  Ld vw6 ((⟨w.heap.size, 0, none⟩ : Addr).add 2) (Value.int .i64) fun (x15 : Int) =>
  Ld vw6 ((⟨w.heap.size, 0, none⟩ : Addr).add 3) (Value.int .i64) fun (x16 : Int) =>
  Ld vw6 ((⟨w.heap.size, 0, none⟩ : Addr).add 4) (Value.int .i64) fun (x17 : Int) =>
  Ld vw6 ((⟨w.heap.size, 0, none⟩ : Addr).add 5) (Value.int .i64) fun (x18 : Int) =>
  C9 (x13, x14, x15, x16, x17, x18) vw6 fun r19 vw20 =>
    C35 r19 vw20 (fun vw21 =>
      Join (S78J1 w vw3 vw4 vw5 R) fun (vJ81 : Unit → World → Prop) =>
        Ld vw21 (⟨vw3.heap.size, 0, none⟩ : Addr) (Value.int .i64) fun (x82 : Int) =>
        C31 x82 vw21 fun r83 vw84 =>
          Br r83 (C35 2 vw84 (fun vw85 =>
              vJ81 () vw85) (S78P vw4 vw5 R)) (Ld vw84 ((⟨vw3.heap.size, 0, none⟩ : Addr).add 1) (Value.int .i64) fun (x86 : Int) =>
            C31 x86 vw84 fun r87 vw88 =>
              Br r87 (C35 2 vw88 (fun vw89 =>
                  vJ81 () vw89) (S78P vw4 vw5 R)) (vJ81 () vw88))) (S78P vw4 vw5 R)
def pl78 : DPlan := (.pre (.reg .seq) (.here [4, 5] (.seq (.reg .seq) (.join [] [2, 3, 4, 5] (.seq (.reg .seq) (.cond (.reg .seq) .leaf)) (.seq (.reg (.held [23] (.take 0 (.take 1 (.take 2 (.take 3 (.take 4 (.take 5 (.take 6 (.take 7 (.take 8 (.take 9 (.take 12 (.take 13 (.take 14 (.take 15 (.take 16 (.take 17 (.take 18 (.take 19 (.take 20 (.take 21 (.effs 10 none (.effs 11 none (.eff 22 none (.eff 23 (some [24]) (.eff 24 (some [25]) (.eff 25 (some [26]) (.eff 26 (some []) .done))))) (.eff 22 none (.eff 11 none (.eff 23 (some [24]) (.eff 24 (some [25]) (.eff 25 (some [26]) (.eff 26 (some []) .done))))))) (.eff 22 none (.eff 10 none (.eff 11 none (.eff 23 (some [24]) (.eff 24 (some [25]) (.eff 25 (some [26]) (.eff 26 (some []) .done)))))))))))))))))))))))))))))) .leaf)))))
set_option maxRecDepth 100000 in
theorem T78 (m1 : Int × Int × Int × Int × Int × Int) (p2 : Int × Int) (w : World) (R : (Int × Int) → Int → World → Prop) (h : S78 m1 p2 w R) : C78 (m1.1, m1.2.1, m1.2.2.1, m1.2.2.2.1, m1.2.2.2.2.1, m1.2.2.2.2.2) (p2.1, p2.2) w R := by
  have e : fnTD Tryd.prog FF MAY (fun _ _ => False) pl78 Tryd.f78 [.agg #[.int .i64 (m1.1), .int .i64 (m1.2.1), .int .i64 (m1.2.2.1), .int .i64 (m1.2.2.2.1), .int .i64 (m1.2.2.2.2.1), .int .i64 (m1.2.2.2.2.2)], .agg #[.int .i64 (p2.1), .int .i64 (p2.2)]] w [(.agg [(.int .i64), (.int .i64)]), (.one (.int .i64))] (fun s w => R s.1 s.2 w) = S78 m1 p2 w R := by kernel_rfl
  exact (fnD_calls okF okM Tryd.func78 (by kernel_rfl) (by kernel_rfl) (e.mpr h)).mono fun _ _ ⟨s, he, hR⟩ => ⟨s.1, s.2, he, hR⟩

/-- foliant/matrix.One -/
def S7 (w : World) (R : (Int × Int × Int × Int × Int × Int) → World → Prop) : Prop :=
  Nw w (.cells #[.int .i64 0, .int .i64 0, .int .i64 0, .int .i64 0, .int .i64 0, .int .i64 0] 23) fun vw1 =>
  St vw1 (⟨w.heap.size, 0, none⟩ : Addr) (.int .i64 10000) fun vw2 =>
  St vw2 ((⟨w.heap.size, 0, none⟩ : Addr).add 1) (.int .i64 0) fun vw3 =>
  St vw3 ((⟨w.heap.size, 0, none⟩ : Addr).add 2) (.int .i64 0) fun vw4 =>
  St vw4 ((⟨w.heap.size, 0, none⟩ : Addr).add 3) (.int .i64 10000) fun vw5 =>
  St vw5 ((⟨w.heap.size, 0, none⟩ : Addr).add 4) (.int .i64 0) fun vw6 =>
  St vw6 ((⟨w.heap.size, 0, none⟩ : Addr).add 5) (.int .i64 0) fun vw7 =>
  Ld vw7 (⟨w.heap.size, 0, none⟩ : Addr) (Value.int .i64) fun (x8 : Int) =>
  Ld vw7 ((⟨w.heap.size, 0, none⟩ : Addr).add 1) (Value.int .i64) fun (x9 : Int) =>
  Ld vw7 ((⟨w.heap.size, 0, none⟩ : Addr).add 2) (Value.int .i64) fun (x10 : Int) =>
  Ld vw7 ((⟨w.heap.size, 0, none⟩ : Addr).add 3) (Value.int .i64) fun (x11 : Int) =>
  Ld vw7 ((⟨w.heap.size, 0, none⟩ : Addr).add 4) (Value.int .i64) fun (x12 : Int) =>
  Ld vw7 ((⟨w.heap.size, 0, none⟩ : Addr).add 5) (Value.int .i64) fun (x13 : Int) =>
  R (x8, x9, x10, x11, x12, x13) vw7
def pl7 : Plan := (.seq (.reg .seq) (.seq (.reg .seq) .leaf))
set_option maxRecDepth 100000 in
theorem T7 (w : World) (R : (Int × Int × Int × Int × Int × Int) → World → Prop) (h : S7 w R) : C7 w R := by
  have e : fnT Tryd.prog ⟨FF, MAY, (fun _ _ => False)⟩ pl7 Tryd.f7 [] w [(.agg [(.int .i64), (.int .i64), (.int .i64), (.int .i64), (.int .i64), (.int .i64)])] (fun s w => R s w) = S7 w R := by kernel_rfl
  exact (fn_calls okF okM Tryd.func7 (by kernel_rfl) (by kernel_rfl) (e.mpr h)).mono fun _ _ ⟨s, he, hR⟩ => ⟨s, he, hR⟩

/-- foliant/matrix.Move -/
def S13 (x1 : Int) (y2 : Int) (w : World) (R : (Int × Int × Int × Int × Int × Int) → World → Prop) : Prop :=
  Nw w (.cells #[.int .i64 0, .int .i64 0, .int .i64 0, .int .i64 0, .int .i64 0, .int .i64 0] 23) fun vw3 =>
  C7 vw3 fun r4 vw5 =>
    Nw vw5 (.cells #[.int .i64 0, .int .i64 0, .int .i64 0, .int .i64 0, .int .i64 0, .int .i64 0] 23) fun vw6 =>
    St vw6 (⟨vw5.heap.size, 0, none⟩ : Addr) (.int .i64 (r4.1)) fun vw7 =>
    St vw7 ((⟨vw5.heap.size, 0, none⟩ : Addr).add 1) (.int .i64 (r4.2.1)) fun vw8 =>
    St vw8 ((⟨vw5.heap.size, 0, none⟩ : Addr).add 2) (.int .i64 (r4.2.2.1)) fun vw9 =>
    St vw9 ((⟨vw5.heap.size, 0, none⟩ : Addr).add 3) (.int .i64 (r4.2.2.2.1)) fun vw10 =>
    St vw10 ((⟨vw5.heap.size, 0, none⟩ : Addr).add 4) (.int .i64 (r4.2.2.2.2.1)) fun vw11 =>
    St vw11 ((⟨vw5.heap.size, 0, none⟩ : Addr).add 5) (.int .i64 (r4.2.2.2.2.2)) fun vw12 =>
    St vw12 ((⟨vw5.heap.size, 0, none⟩ : Addr).add 4) (.int .i64 x1) fun vw13 =>
    St vw13 ((⟨vw5.heap.size, 0, none⟩ : Addr).add 5) (.int .i64 y2) fun vw14 =>
    Ld vw14 (⟨vw5.heap.size, 0, none⟩ : Addr) (Value.int .i64) fun (x15 : Int) =>
    Ld vw14 ((⟨vw5.heap.size, 0, none⟩ : Addr).add 1) (Value.int .i64) fun (x16 : Int) =>
    Ld vw14 ((⟨vw5.heap.size, 0, none⟩ : Addr).add 2) (Value.int .i64) fun (x17 : Int) =>
    Ld vw14 ((⟨vw5.heap.size, 0, none⟩ : Addr).add 3) (Value.int .i64) fun (x18 : Int) =>
    Ld vw14 ((⟨vw5.heap.size, 0, none⟩ : Addr).add 4) (Value.int .i64) fun (x19 : Int) =>
    Ld vw14 ((⟨vw5.heap.size, 0, none⟩ : Addr).add 5) (Value.int .i64) fun (x20 : Int) =>
    St vw14 (⟨w.heap.size, 0, none⟩ : Addr) (.int .i64 x15) fun vw21 =>
    St vw21 ((⟨w.heap.size, 0, none⟩ : Addr).add 1) (.int .i64 x16) fun vw22 =>
    St vw22 ((⟨w.heap.size, 0, none⟩ : Addr).add 2) (.int .i64 x17) fun vw23 =>
    St vw23 ((⟨w.heap.size, 0, none⟩ : Addr).add 3) (.int .i64 x18) fun vw24 =>
    St vw24 ((⟨w.heap.size, 0, none⟩ : Addr).add 4) (.int .i64 x19) fun vw25 =>
    St vw25 ((⟨w.heap.size, 0, none⟩ : Addr).add 5) (.int .i64 x20) fun vw26 =>
    Ld vw26 (⟨w.heap.size, 0, none⟩ : Addr) (Value.int .i64) fun (x27 : Int) =>
    Ld vw26 ((⟨w.heap.size, 0, none⟩ : Addr).add 1) (Value.int .i64) fun (x28 : Int) =>
    Ld vw26 ((⟨w.heap.size, 0, none⟩ : Addr).add 2) (Value.int .i64) fun (x29 : Int) =>
    Ld vw26 ((⟨w.heap.size, 0, none⟩ : Addr).add 3) (Value.int .i64) fun (x30 : Int) =>
    Ld vw26 ((⟨w.heap.size, 0, none⟩ : Addr).add 4) (Value.int .i64) fun (x31 : Int) =>
    Ld vw26 ((⟨w.heap.size, 0, none⟩ : Addr).add 5) (Value.int .i64) fun (x32 : Int) =>
    R (x27, x28, x29, x30, x31, x32) vw26
def pl13 : Plan := (.seq (.reg .seq) (.seq (.reg .seq) (.seq (.reg .seq) (.seq (.reg .seq) .leaf))))
set_option maxRecDepth 100000 in
theorem T13 (x1 : Int) (y2 : Int) (w : World) (R : (Int × Int × Int × Int × Int × Int) → World → Prop) (h : S13 x1 y2 w R) : C13 x1 y2 w R := by
  have e : fnT Tryd.prog ⟨FF, MAY, (fun _ _ => False)⟩ pl13 Tryd.f13 [.int .i64 x1, .int .i64 y2] w [(.agg [(.int .i64), (.int .i64), (.int .i64), (.int .i64), (.int .i64), (.int .i64)])] (fun s w => R s w) = S13 x1 y2 w R := by kernel_rfl
  exact (fn_calls okF okM Tryd.func13 (by kernel_rfl) (by kernel_rfl) (e.mpr h)).mono fun _ _ ⟨s, he, hR⟩ => ⟨s, he, hR⟩

end Go.Proofs.YtdchpkbpnfoknaaDoor

/- Package matrix: products, images, lengths and boxes, of the program. No condition. -/
namespace Go.Proofs.YtdchpkbpnfoknaaDoor
namespace Mat
open Sh Fix
set_option linter.unusedVariables false
set_option linter.unusedSimpArgs false
set_option maxRecDepth 4000

abbrev Mx := Int × Int × Int × Int × Int × Int
def comps (m : Mx) : List Int := [m.1, m.2.1, m.2.2.1, m.2.2.2.1, m.2.2.2.2.1, m.2.2.2.2.2]
def okM (m : Mx) : Bool := (comps m).all inW
def mrow (m : Mx) : List Value := [.int .i64 m.1, .int .i64 m.2.1, .int .i64 m.2.2.1, .int .i64 m.2.2.2.1, .int .i64 m.2.2.2.2.1, .int .i64 m.2.2.2.2.2]
/-- The product: a, then b. -/
def mulP (a b : Mx) : Option Mx := if okM a = true ∧ okM b = true then
    (dotP [a.1, b.1, a.2.1, b.2.2.1]).bind fun p => (dotP [a.1, b.2.1, a.2.1, b.2.2.2.1]).bind fun q => (dotP [a.2.2.1, b.1, a.2.2.2.1, b.2.2.1]).bind fun r => (dotP [a.2.2.1, b.2.1, a.2.2.2.1, b.2.2.2.1]).bind fun s =>
    (dotP [a.2.2.2.2.1, b.1, a.2.2.2.2.2, b.2.2.1, b.2.2.2.2.1, 10000]).bind fun t => (dotP [a.2.2.2.2.1, b.2.1, a.2.2.2.2.2, b.2.2.2.1, b.2.2.2.2.2, 10000]).bind fun u => some (p, q, r, s, t, u)
  else none
def resM : Option Mx → Mx × Int
  | some m => (m, 0)
  | none => ((0, 0, 0, 0, 0, 0), 2)
def applyP (m : Mx) (p : Int × Int) : Option (Int × Int) := if okM m = true ∧ inW p.1 = true ∧ inW p.2 = true then
    (dotP [p.1, m.1, p.2, m.2.2.1, m.2.2.2.2.1, 10000]).bind fun x => (dotP [p.1, m.2.1, p.2, m.2.2.2.1, m.2.2.2.2.2, 10000]).bind fun y => some (x, y)
  else none
def resP : Option (Int × Int) → (Int × Int) × Int
  | some p => (p, 0)
  | none => ((0, 0), 2)
theorem row4 {w : World} {b : Nat} {t : TypeId} {x0 x1 x2 x3 : Int} (h : Blk w b #[.int .i64 x0, .int .i64 x1, .int .i64 x2, .int .i64 x3] t) : IRow w ⟨some ⟨b, 0, none⟩, 4, 4⟩ [x0, x1, x2, x3] :=
  IRow.of h rfl fun i hi => by
    have : i = 0 ∨ i = 1 ∨ i = 2 ∨ i = 3 := by simp at hi; omega
    rcases this with rfl | rfl | rfl | rfl <;> rfl
theorem row6 {w : World} {b : Nat} {t : TypeId} {x0 x1 x2 x3 x4 x5 : Int} (h : Blk w b #[.int .i64 x0, .int .i64 x1, .int .i64 x2, .int .i64 x3, .int .i64 x4, .int .i64 x5] t) : IRow w ⟨some ⟨b, 0, none⟩, 6, 6⟩ [x0, x1, x2, x3, x4, x5] :=
  IRow.of h rfl fun i hi => by
    have : i = 0 ∨ i = 1 ∨ i = 2 ∨ i = 3 ∨ i = 4 ∨ i = 5 := by simp at hi; omega
    rcases this with rfl | rfl | rfl | rfl | rfl | rfl <;> rfl
theorem dotP_in {l : List Int} {n : Int} (h : dotP l = some n) : inW n = true := by
  unfold dotP at h
  split at h
  · rename_i h2; cases h; exact h2.2
  · cases h
theorem c_out (n : Int) (w : World) : C31 n w fun r w1 => r = (!inW n) ∧ w1 = w := by
  refine T31 _ _ _ ?_
  unfold S31
  refine Br.dec (fun h => ⟨?_, rfl⟩) fun h => ⟨?_, rfl⟩
  · rw [inW_no.2 (by omega)]; rfl
  · by_cases h2 : n > 1073741824
    · rw [inW_no.2 (by omega), decide_eq_true h2]; rfl
    · rw [inW_spec.2 (by omega), decide_eq_false h2]; rfl
/-- The panic of this package. -/
def gup (e : Int) : Value := .iface 110 (.agg #[.int .i64 e])
theorem c_need (e : Int) (w : World) : C35 e w (fun w1 => e = 0 ∧ w1 = w) fun v w1 => v = gup e ∧ e ≠ 0 ∧ w1 = w := by
  refine T35 _ _ _ _ ?_
  unfold S35
  exact Br.ne (fun h => ⟨rfl, h, rfl⟩) fun h => ⟨h, rfl⟩
theorem c_dot {s : Slc} {l : List Int} {w : World} (h : IRow w s l) (hl : l.length = 4 ∨ l.length = 6) : C36 s w (fun r w1 => dotP l = some r ∧ Ext (fun _ => False) w w1) fun v w1 => v = gup 2 ∧ dotP l = none ∧ Ext (fun _ => False) w w1 := by
  refine T36 _ _ _ _ ?_
  unfold S36
  refine (Fix.c_dot h (by omega)).mono ?_
  rintro r e w1 ⟨h1, he⟩
  have hd : dotF l = match dotP l with
    | some n => (n, 0)
    | none => (0, 2) := if_neg (by omega)
  rw [hd] at h1
  cases hp : dotP l with
  | none =>
    rw [hp] at h1
    cases h1
    refine (c_need _ _).mono (fun w2 h => absurd h.1 (by omega)) fun v w2 h => ⟨h.1, rfl, ?_⟩
    obtain ⟨_, _, rfl⟩ := h
    exact he
  | some n =>
    rw [hp] at h1
    cases h1
    refine (c_need _ _).mono (fun w2 h => ?_) fun v w2 h => absurd rfl h.2.1
    obtain ⟨_, rfl⟩ := h
    refine (c_out _ _).mono ?_
    rintro b _ ⟨rfl, rfl⟩
    rw [dotP_in hp]
    exact ⟨rfl, he⟩
theorem c_parts {w0 w : World} {L : List (Nat × List Value × TypeId)} {b : Nat} (h : Hn w0 w L) : C30 (some (⟨b, 0, none⟩ : Addr)) w fun r w1 => r = (some (⟨b, 0, none⟩ : Addr), some (⟨b, 1, none⟩ : Addr), some (⟨b, 2, none⟩ : Addr), some (⟨b, 3, none⟩ : Addr), some (⟨b, 4, none⟩ : Addr), some (⟨b, 5, none⟩ : Addr)) ∧ Ext (fun _ => False) w w1 := by
  refine T30 _ _ _ ?_
  unfold S30
  refine (Hn.start w).nw fun w2 H => ?_
  have H := H.drew
  simp only [add_lit]
  refine Nn.of (Nn.of (Nn.of (Nn.of (Nn.of (Nn.of ?_)))))
  simp only [add_lit, Nat.zero_add]
  refine H.st 0 rfl (by simp) fun _ H => ?_
  refine H.st 0 rfl (by simp) fun _ H => ?_
  refine H.st 0 rfl (by simp) fun _ H => ?_
  refine H.st 0 rfl (by simp) fun _ H => ?_
  refine H.st 0 rfl (by simp) fun _ H => ?_
  refine H.st 0 rfl (by simp) fun _ H => ?_
  refine H.ld 0 rfl rfl ?_
  refine H.ld 0 rfl rfl ?_
  refine H.ld 0 rfl rfl ?_
  refine H.ld 0 rfl rfl ?_
  refine H.ld 0 rfl rfl ?_
  refine H.ld 0 rfl rfl ?_
  exact ⟨rfl, H.ext⟩
theorem c_check (m : Mx) (w : World) : C9 m w fun r w1 => r = (if okM m = true then 0 else 2) ∧ Ext (fun _ => False) w w1 := by
  refine T9 _ _ _ ?_
  unfold S9
  refine (Hn.start w).nw fun w2 H => (c_parts H).mono ?_
  rintro r w3 ⟨rfl, he⟩
  have H := H.keep he
  refine ⟨fun n st w4 => ∃ i : Nat, st = (i : Int) ∧ i ≤ 6 ∧ n = 6 - i ∧ w4 = w3 ∧ ∀ j, j < i → inW ((comps m).getD j 0) = true, 6, ⟨0, rfl, by omega, rfl, rfl, fun j hj => by omega⟩, ?_⟩
  rintro n st w4 ⟨i, rfl, hi, rfl, rfl, hall⟩
  unfold S9L1
  refine Br.dec (fun e => ⟨by omega, by omega, ?_⟩) fun e => ⟨?_, H.ext⟩
  · have fin : ∀ x : Int, (comps m).getD i 0 = x → C31 x w4 fun r11 vw12 => Br r11 ((2 : Int) = (if okM m = true then 0 else 2) ∧ Ext (fun _ => False) w vw12) (∃ n', n' < 6 - i ∧ ∃ i' : Nat, IntKind.i64.wrap ((i : Int) + 1) = (i' : Int) ∧ i' ≤ 6 ∧ n' = 6 - i' ∧ vw12 = w4 ∧ ∀ j, j < i' → inW ((comps m).getD j 0) = true) := fun x hx => by
      refine (c_out _ _).mono ?_
      rintro r _ ⟨rfl, rfl⟩
      cases hw : inW x with
      | true =>
        refine ⟨6 - (i + 1), by omega, i + 1, by rw [i64_id (by omega)]; rfl, by omega, rfl, rfl, fun j hj => ?_⟩
        by_cases hji : j = i
        · rw [hji, hx]; exact hw
        · exact hall j (by omega)
      | false =>
        refine ⟨?_, H.ext⟩
        rw [if_neg]
        intro hm
        have := (all_iff _).1 hm i (by show i < 6; omega)
        rw [hx, hw] at this
        cases this
    have hc : i = 0 ∨ i = 1 ∨ i = 2 ∨ i = 3 ∨ i = 4 ∨ i = 5 := by omega
    rcases hc with rfl | rfl | rfl | rfl | rfl | rfl <;> exact ⟨_, rfl, Nn.of (H.ld 0 rfl rfl (fin _ (by rfl)))⟩
  · rw [if_pos]
    exact (all_iff _).2 fun j hj => hall j (by have : j < 6 := hj; omega)
theorem c_caught_nil (a : Option Addr) (w : World) : C34 Value.nilIface a w (fun w1 => w1 = w) fun _ _ => False := by
  refine T34_nil _ _ _ _ ?_
  unfold S34_nil
  rfl
theorem c_caught {w0 w : World} {L : List (Nat × List Value × TypeId)} {b o : Nat} {cs : List Value} {t : TypeId} (H : Hn w0 w L) (e : Int) (i : Nat) (hi : L[i]? = some (b, cs, t)) (ho : o < cs.length) :
    C34 (gup e) (some ⟨b, o, none⟩) w (fun w1 => Hn w0 w1 (L.set i (b, cs.set o (.int .i64 e), t))) fun _ _ => False := by
  refine T34_T110 _ _ _ _ _ ?_
  unfold S34_T110
  have hi' : (L ++ [(w.heap.size, [.int .i64 0], 110)])[i]? = some (b, cs, t) := by
    rw [List.getElem?_append_left (List.getElem?_eq_some_iff.1 hi).1]; exact hi
  have hl : (L ++ [(w.heap.size, [.int .i64 0], 110)])[L.length]? = some (w.heap.size, [.int .i64 0], 110) := by simp
  refine H.nw' fun w2 H2 he2 => ?_
  refine H2.st' L.length hl (by simp) fun w3 H3 he3 => ?_
  have hlen : L.length < (L ++ [(w.heap.size, [Value.int .i64 0], 110)]).length := by simp
  refine H3.ld L.length (by rw [List.getElem?_set_self hlen]) rfl (Nn.of ?_)
  have H4 := H.keep he2
  have H5 := H4.other he3 (fun j hj => ⟨by rw [hj]; exact H.size, fun hm => by
    have := H.all_lt hm
    omega⟩)
  exact H5.st i hi ho fun w4 H6 => H6
section
variable {w0 w : World}
/-- What Mul's deferred call leaves. -/
theorem c_mulD (a b p : Mx) (e : Int) {L : List (Nat × List Value × TypeId)} {b1 b2 : Nat} {t1 t2 : TypeId} {R : World → Prop}
    (H : Hn w0 w L) (i j : Nat) (hi : L[i]? = some (b2, mrow p, t2)) (hj : L[j]? = some (b1, [.int .i64 e], t1)) (he : e = 0)
    (k : R w) : CD33 (⟨b1, 0, none⟩ : Addr) (⟨b2, 0, none⟩ : Addr) none w R := by
  refine T33_nil _ _ _ _ ?_
  unfold S33_nil
  refine (c_caught_nil _ _).mono (fun w1 h => ?_) fun _ _ h => h.elim
  subst h
  refine H.ld j hj rfl ?_
  exact Br.ne (fun h => absurd he h) fun _ => k
theorem c_mul (a b : Mx) (w : World) : C12 a b w fun r e w1 => (r, e) = resM (mulP a b) ∧ Ext (fun _ => False) w w1 := by
  refine T12 _ _ _ _ ?_
  unfold S12
  refine (Hn.start w).nw fun w3 H => H.nw fun w4 H => H.nw fun w5 H => H.nw fun w6 H => ?_
  have caught : ∀ (p : Mx) (c : Int) (v : Value) (w7 : World), Hn w w7 [(w.heap.size, mrow a, 23), (w3.heap.size, mrow b, 23), (w4.heap.size, mrow p, 23), (w5.heap.size, [.int .i64 c], 26)] → v = gup 2 → mulP a b = none →
      S12P w4 w5 (fun r e w1 => (r, e) = resM (mulP a b) ∧ Ext (fun _ => False) w w1) v w7 := fun p c v w7 H hv hm => by
    subst hv
    unfold S12P
    refine T33_T110 _ _ 2 _ _ ?_
    unfold S33_T110
    refine (c_caught H 2 3 rfl (by simp)).mono (fun w8 H => ?_) fun _ _ h => h.elim
    refine H.ld 3 rfl rfl (Br.ne (fun _ => ?_) fun h => by cases h)
    refine H.st 2 rfl (by simp [mrow]) fun _ H => H.st 2 rfl (by simp [mrow]) fun _ H => H.st 2 rfl (by simp [mrow]) fun _ H => H.st 2 rfl (by simp [mrow]) fun _ H => H.st 2 rfl (by simp [mrow]) fun _ H => H.st 2 rfl (by simp [mrow]) fun _ H => ?_
    refine H.ld 2 rfl rfl (H.ld 2 rfl rfl (H.ld 2 rfl rfl (H.ld 2 rfl rfl (H.ld 2 rfl rfl (H.ld 2 rfl rfl (H.ld 3 rfl rfl ⟨?_, H.ext⟩))))))
    rw [hm]
    rfl
  have no : ∀ {w7 : World} {v : Value}, Ext (fun _ => False) w6 w7 → v = gup 2 → mulP a b = none → S12P w4 w5 (fun r e w1 => (r, e) = resM (mulP a b) ∧ Ext (fun _ => False) w w1) v w7 := fun he hv hm => caught (0, 0, 0, 0, 0, 0) 0 _ _ (H.keep he) hv hm
  repeat (first | refine H.ld 0 rfl rfl ?_ | refine H.ld 1 rfl rfl ?_ | refine H.ld 2 rfl rfl ?_ | refine H.ld 3 rfl rfl ?_ | refine H.ld 4 rfl rfl ?_ | refine H.ld 5 rfl rfl ?_)
  refine (c_check a _).mono ?_
  rintro r w7 ⟨rfl, he⟩
  have e7 := he
  have H := H.keep he
  refine (c_need _ _).mono (fun w8 h8 => ?_) fun v w8 h8 => ?_
  case refine_2 =>
    obtain ⟨hv, hne, rfl⟩ := h8
    have hka : ¬ okM a = true := fun h => hne (if_pos h)
    rw [if_neg hka] at hv
    exact no e7 hv (if_neg fun h => hka h.1)
  obtain ⟨hz, rfl⟩ := h8
  have hka : okM a = true := by
    refine Decidable.byContradiction fun h => ?_
    rw [if_neg h] at hz
    cases hz
  repeat (first | refine H.ld 0 rfl rfl ?_ | refine H.ld 1 rfl rfl ?_ | refine H.ld 2 rfl rfl ?_ | refine H.ld 3 rfl rfl ?_ | refine H.ld 4 rfl rfl ?_ | refine H.ld 5 rfl rfl ?_)
  refine (c_check b _).mono ?_
  rintro r w9 ⟨rfl, he⟩
  have e9 := e7.tr he
  have H := H.keep he
  refine (c_need _ _).mono (fun w10 h8 => ?_) fun v w10 h8 => ?_
  case refine_2 =>
    obtain ⟨hv, hne, rfl⟩ := h8
    have hkb : ¬ okM b = true := fun h => hne (if_pos h)
    rw [if_neg hkb] at hv
    exact no e9 hv (if_neg fun h => hkb h.2)
  obtain ⟨hz, rfl⟩ := h8
  have hkb : okM b = true := by
    refine Decidable.byContradiction fun h => ?_
    rw [if_neg h] at hz
    cases hz
  have HD := H.drew
  have eD := e9.drew
  have hmul : mulP a b = (dotP [a.1, b.1, a.2.1, b.2.2.1]).bind fun p => (dotP [a.1, b.2.1, a.2.1, b.2.2.2.1]).bind fun q => (dotP [a.2.2.1, b.1, a.2.2.2.1, b.2.2.1]).bind fun r => (dotP [a.2.2.1, b.2.1, a.2.2.2.1, b.2.2.2.1]).bind fun s =>
    (dotP [a.2.2.2.2.1, b.1, a.2.2.2.2.2, b.2.2.1, b.2.2.2.2.1, 10000]).bind fun t => (dotP [a.2.2.2.2.1, b.2.1, a.2.2.2.2.2, b.2.2.2.1, b.2.2.2.2.2, 10000]).bind fun u => some (p, q, r, s, t, u) := if_pos ⟨hka, hkb⟩
  have bnone : ∀ {α β : Type} (x : Option α), (x.bind fun _ => (none : Option β)) = none := fun x => by cases x <;> rfl
  have no' : ∀ {w11 w12 : World} {v : Value}, Ext (fun _ => False) w10.drew w11 → Ext (fun _ => False) w11 w12 → v = gup 2 → mulP a b = none → S12P w4 w5 (fun r e w1 => (r, e) = resM (mulP a b) ∧ Ext (fun _ => False) w w1) v w12 := fun h1 h2 hv hm => no ((eD.tr h1).tr h2) hv hm
  have hS0 : ∀ w11, Ext (fun _ => False) w10.drew w11 → Blk w11 w.heap.size (mrow a).toArray 23 := fun w11 h => (HD.keep h).get 0 rfl
  have hS1 : ∀ w11, Ext (fun _ => False) w10.drew w11 → Blk w11 w3.heap.size (mrow b).toArray 23 := fun w11 h => (HD.keep h).get 1 rfl
  refine ⟨fun w11 => Ext (fun _ => False) w10.drew w11, Ext.refl _ _, ?_⟩
  repeat (first | refine LdS.of hS0 rfl ?_ | refine LdS.of hS1 rfl ?_)
  have eN : ∀ (w11 : World) (o : Obj), Ext (fun _ => False) w11 (w11.alloc o) := fun w11 o => (Ext.refl _ _).alloc o
  refine ⟨fun a b => Ext (fun _ => False) a b, fun _ => True, trivial,
    fun x w' => IRow w' x [a.1, b.1, a.2.1, b.2.2.1], fun x _ _ h h2 => h2.keep h, fun x _ => dotP [a.1, b.1, a.2.1, b.2.2.1] = some x, fun _ _ _ _ h => h,
    fun x w' => IRow w' x [a.1, b.2.1, a.2.1, b.2.2.2.1], fun x _ _ h h2 => h2.keep h, fun x _ => dotP [a.1, b.2.1, a.2.1, b.2.2.2.1] = some x, fun _ _ _ _ h => h,
    fun x w' => IRow w' x [a.2.2.1, b.1, a.2.2.2.1, b.2.2.1], fun x _ _ h h2 => h2.keep h, fun x _ => dotP [a.2.2.1, b.1, a.2.2.2.1, b.2.2.1] = some x, fun _ _ _ _ h => h,
    fun x w' => IRow w' x [a.2.2.1, b.2.1, a.2.2.2.1, b.2.2.2.1], fun x _ _ h h2 => h2.keep h, fun x _ => dotP [a.2.2.1, b.2.1, a.2.2.2.1, b.2.2.2.1] = some x, fun _ _ _ _ h => h,
    fun x w' => IRow w' x [a.2.2.2.2.1, b.1, a.2.2.2.2.2, b.2.2.1, b.2.2.2.2.1, 10000], fun x _ _ h h2 => h2.keep h, fun x _ => dotP [a.2.2.2.2.1, b.1, a.2.2.2.2.2, b.2.2.1, b.2.2.2.2.1, 10000] = some x, fun _ _ _ _ h => h,
    fun x w' => IRow w' x [a.2.2.2.2.1, b.2.1, a.2.2.2.2.2, b.2.2.2.1, b.2.2.2.2.2, 10000], fun x _ _ h h2 => h2.keep h, ⟨?n1, ?c1, ?n2, ?c2, ?n3, ?c3, ?n4, ?c4, ?n5, ?c5, ?n6, trivial⟩, ?fin⟩
  case n1 => exact fun w11 h _ => ⟨h.tr (eN _ _), trivial, eN _ _, _, rfl, row4 (Blk.new _ _ _)⟩
  case n2 => exact fun w11 h _ => ⟨h.tr (eN _ _), trivial, eN _ _, _, rfl, row4 (Blk.new _ _ _)⟩
  case n3 => exact fun w11 h _ => ⟨h.tr (eN _ _), trivial, eN _ _, _, rfl, row4 (Blk.new _ _ _)⟩
  case n4 => exact fun w11 h _ => ⟨h.tr (eN _ _), trivial, eN _ _, _, rfl, row4 (Blk.new _ _ _)⟩
  case n5 => exact fun w11 h _ => ⟨h.tr (eN _ _), trivial, eN _ _, _, rfl, row6 (Blk.new _ _ _)⟩
  case n6 => exact fun w11 h _ => ⟨h.tr (eN _ _), trivial, eN _ _, _, rfl, row6 (Blk.new _ _ _)⟩
  case c1 => exact fun w11 h _ x hx => (c_dot hx (.inl rfl)).mono (fun r w12 h2 => ⟨h.tr h2.2, trivial, h2.2, r, rfl, h2.1⟩) fun v w12 h2 => no' h h2.2.2 h2.1 (by rw [hmul, h2.2.1]; rfl)
  case c2 => exact fun w11 h _ x hx => (c_dot hx (.inl rfl)).mono (fun r w12 h2 => ⟨h.tr h2.2, trivial, h2.2, r, rfl, h2.1⟩) fun v w12 h2 => no' h h2.2.2 h2.1 (by rw [hmul, h2.2.1]; simp [bnone])
  case c3 => exact fun w11 h _ x hx => (c_dot hx (.inl rfl)).mono (fun r w12 h2 => ⟨h.tr h2.2, trivial, h2.2, r, rfl, h2.1⟩) fun v w12 h2 => no' h h2.2.2 h2.1 (by rw [hmul, h2.2.1]; simp [bnone])
  case c4 => exact fun w11 h _ x hx => (c_dot hx (.inl rfl)).mono (fun r w12 h2 => ⟨h.tr h2.2, trivial, h2.2, r, rfl, h2.1⟩) fun v w12 h2 => no' h h2.2.2 h2.1 (by rw [hmul, h2.2.1]; simp [bnone])
  case c5 => exact fun w11 h _ x hx => (c_dot hx (.inr rfl)).mono (fun r w12 h2 => ⟨h.tr h2.2, trivial, h2.2, r, rfl, h2.1⟩) fun v w12 h2 => no' h h2.2.2 h2.1 (by rw [hmul, h2.2.1]; simp [bnone])
  case fin =>
    intro w11 h _ _ _ x1 h1 _ _ x2 h2 _ _ x3 h3 _ _ x4 h4 _ _ x5 h5 _ hx6
    refine (c_dot hx6 (.inr rfl)).mono (fun x6 w12 h12 => ?_) fun v w12 h12 => no' h h12.2.2 h12.1 (by rw [hmul, h12.2.1]; simp [bnone])
    have H := HD.keep (h.tr h12.2)
    refine H.st 2 rfl (by simp) fun _ H => H.st 2 rfl (by simp) fun _ H => H.st 2 rfl (by simp) fun _ H => H.st 2 rfl (by simp) fun _ H => H.st 2 rfl (by simp) fun _ H => H.st 2 rfl (by simp) fun _ H => H.st 3 rfl (by simp) fun w14 H => ?_
    refine c_mulD a b (x1, x2, x3, x4, x5, x6) 0 H 2 3 rfl rfl rfl ?_
    refine H.ld 2 rfl rfl (H.ld 2 rfl rfl (H.ld 2 rfl rfl (H.ld 2 rfl rfl (H.ld 2 rfl rfl (H.ld 2 rfl rfl (H.ld 3 rfl rfl ⟨?_, H.ext⟩))))))
    rw [hmul, h1, h2, h3, h4, h5, h12.1]
    rfl
end
end Mat
end Go.Proofs.YtdchpkbpnfoknaaDoor

/- Package matrix: images, lengths and boxes, of the program. No condition. -/
namespace Go.Proofs.YtdchpkbpnfoknaaDoor
namespace Mat
open Sh Fix
set_option linter.unusedVariables false
set_option linter.unusedSimpArgs false
set_option maxRecDepth 4000
set_option maxHeartbeats 1000000
attribute [local irreducible] Ld St Nw Nn Lt LdS

theorem bnone {α β : Type} (x : Option α) : (x.bind fun _ => (none : Option β)) = none := by cases x <;> rfl
theorem c_apply (m : Mx) (p : Int × Int) (w : World) : C78 m p w fun r e w1 => (r, e) = resP (applyP m p) ∧ Ext (fun _ => False) w w1 := by
  refine T78 _ _ _ _ ?_
  unfold S78
  refine (Hn.start w).nw fun w3 H => H.nw fun w4 H => H.nw fun w5 H => H.nw fun w6 H => ?_
  have caught : ∀ (q : Int × Int) (c : Int) (v : Value) (w7 : World), Hn w w7 [(w.heap.size, mrow m, 23), (w3.heap.size, [.int .i64 p.1, .int .i64 p.2], 36), (w4.heap.size, [.int .i64 q.1, .int .i64 q.2], 36), (w5.heap.size, [.int .i64 c], 26)] → v = gup 2 → applyP m p = none →
      S78P w4 w5 (fun r e w1 => (r, e) = resP (applyP m p) ∧ Ext (fun _ => False) w w1) v w7 := fun q c v w7 H hv hm => by
    subst hv
    unfold S78P
    refine T83_T110 _ _ 2 _ _ ?_
    unfold S83_T110
    refine (c_caught H 2 3 rfl (by simp)).mono (fun w8 H => ?_) fun _ _ h => h.elim
    refine H.ld 3 rfl rfl (Br.ne (fun _ => ?_) fun h => by cases h)
    repeat (first | refine Lt.of ?_ | refine Nn.of ?_ | refine H.ld 0 rfl rfl ?_ | refine H.ld 1 rfl rfl ?_ | refine H.ld 2 rfl rfl ?_ | refine H.ld 3 rfl rfl ?_ | refine H.ld 4 rfl rfl ?_ | refine H.ld 5 rfl rfl ?_ | (refine H.st 0 rfl (by simp) fun _ H => ?_; simp only [List.nil_append, List.cons_append, List.set_cons_zero, List.set_cons_succ, Nat.zero_add] at H) | (refine H.st 1 rfl (by simp) fun _ H => ?_; simp only [List.nil_append, List.cons_append, List.set_cons_zero, List.set_cons_succ, Nat.zero_add] at H) | (refine H.st 2 rfl (by simp) fun _ H => ?_; simp only [List.nil_append, List.cons_append, List.set_cons_zero, List.set_cons_succ, Nat.zero_add] at H) | (refine H.st 3 rfl (by simp) fun _ H => ?_; simp only [List.nil_append, List.cons_append, List.set_cons_zero, List.set_cons_succ, Nat.zero_add] at H) | (refine H.st 4 rfl (by simp) fun _ H => ?_; simp only [List.nil_append, List.cons_append, List.set_cons_zero, List.set_cons_succ, Nat.zero_add] at H) | (refine H.st 5 rfl (by simp) fun _ H => ?_; simp only [List.nil_append, List.cons_append, List.set_cons_zero, List.set_cons_succ, Nat.zero_add] at H))
    refine ⟨?_, H.ext⟩
    rw [hm]
    rfl
  have no : ∀ {w7 : World} {v : Value}, Ext (fun _ => False) w6 w7 → v = gup 2 → applyP m p = none → S78P w4 w5 (fun r e w1 => (r, e) = resP (applyP m p) ∧ Ext (fun _ => False) w w1) v w7 := fun he hv hm => caught (0, 0) 0 _ _ (H.keep he) hv hm
  repeat (first | refine H.ld 0 rfl rfl ?_ | refine H.ld 1 rfl rfl ?_ | refine H.ld 2 rfl rfl ?_ | refine H.ld 3 rfl rfl ?_ | refine H.ld 4 rfl rfl ?_ | refine H.ld 5 rfl rfl ?_)
  refine (c_check m _).mono ?_
  rintro r w7 ⟨rfl, he⟩
  have e7 := he
  have H := H.keep he
  refine (c_need _ _).mono (fun w8 h8 => ?_) fun v w8 h8 => ?_
  case refine_2 =>
    obtain ⟨hv, hne, rfl⟩ := h8
    have hka : ¬ okM m = true := fun h => hne (if_pos h)
    rw [if_neg hka] at hv
    exact no e7 hv (if_neg fun h => hka h.1)
  obtain ⟨hz, rfl⟩ := h8
  have hka : okM m = true := by
    refine Decidable.byContradiction fun h => ?_
    rw [if_neg h] at hz
    cases hz
  refine ⟨fun _ w9 => w9 = w8 ∧ inW p.1 = true ∧ inW p.2 = true, ?_, ?_⟩
  case refine_2 =>
    have two : ∀ {Q : World → Prop}, (¬ (inW p.1 = true ∧ inW p.2 = true)) → C35 2 w8 Q (S78P w4 w5 (fun r e w1 => (r, e) = resP (applyP m p) ∧ Ext (fun _ => False) w w1)) := fun hn => (c_need _ _).mono (fun w9 h => absurd h.1 (by omega)) fun v w9 h => by
      obtain ⟨hv, _, rfl⟩ := h
      exact no e7 hv (if_neg fun h => hn h.2)
    refine H.ld 1 rfl rfl ((c_out _ _).mono ?_)
    rintro b _ ⟨rfl, rfl⟩
    refine Br_of (fun h => two fun h2 => by rw [h2.1] at h; cases h) fun h1 => H.ld 1 rfl rfl ((c_out _ _).mono ?_)
    rintro b _ ⟨rfl, rfl⟩
    exact Br_of (fun h => two fun h2 => by rw [h2.2] at h; cases h) fun h2 => ⟨rfl, by simpa using h1, by simpa using h2⟩
  rintro _ w9 ⟨rfl, hi1, hi2⟩
  unfold S78J1
  have HD := H.drew
  have eD := e7.drew
  have happ : applyP m p = (dotP [p.1, m.1, p.2, m.2.2.1, m.2.2.2.2.1, 10000]).bind fun x => (dotP [p.1, m.2.1, p.2, m.2.2.2.1, m.2.2.2.2.2, 10000]).bind fun y => some (x, y) := if_pos ⟨hka, hi1, hi2⟩
  have no' : ∀ {w11 w12 : World} {v : Value}, Ext (fun _ => False) w9.drew w11 → Ext (fun _ => False) w11 w12 → v = gup 2 → applyP m p = none → S78P w4 w5 (fun r e w1 => (r, e) = resP (applyP m p) ∧ Ext (fun _ => False) w w1) v w12 := fun h1 h2 hv hm => no ((eD.tr h1).tr h2) hv hm
  have hS0 : ∀ w11, Ext (fun _ => False) w9.drew w11 → Blk w11 w.heap.size (mrow m).toArray 23 := fun w11 h => (HD.keep h).get 0 rfl
  have hS1 : ∀ w11, Ext (fun _ => False) w9.drew w11 → Blk w11 w3.heap.size #[.int .i64 p.1, .int .i64 p.2] 36 := fun w11 h => (HD.keep h).get 1 rfl
  have eN : ∀ (w11 : World) (o : Obj), Ext (fun _ => False) w11 (w11.alloc o) := fun w11 o => (Ext.refl _ _).alloc o
  have fin : ∀ (x y : Int) (w12 : World), Ext (fun _ => False) w9.drew w12 → dotP [p.1, m.1, p.2, m.2.2.1, m.2.2.2.2.1, 10000] = some x → dotP [p.1, m.2.1, p.2, m.2.2.2.1, m.2.2.2.2.2, 10000] = some y →
      St w12 (⟨w4.heap.size, 0, none⟩ : Addr) (.int .i64 x) fun vw49 =>
          St vw49 ((⟨w4.heap.size, 0, none⟩ : Addr).add 1) (.int .i64 y) fun vw50 =>
          St vw50 (⟨w5.heap.size, 0, none⟩ : Addr) (.int .i64 0) fun vw51 =>
          CD83 (⟨w5.heap.size, 0, none⟩ : Addr) (⟨w4.heap.size, 0, none⟩ : Addr) none vw51 fun vw52 =>
            Ld vw52 (⟨w4.heap.size, 0, none⟩ : Addr) (Value.int .i64) fun (x53 : Int) =>
            Ld vw52 ((⟨w4.heap.size, 0, none⟩ : Addr).add 1) (Value.int .i64) fun (x54 : Int) =>
            Ld vw52 (⟨w5.heap.size, 0, none⟩ : Addr) (Value.int .i64) fun (x55 : Int) =>
            ((x53, x54), x55) = resP (applyP m p) ∧ Ext (fun _ => False) w vw52 := fun x y w12 he hx hy => by
    have H := HD.keep he
    repeat (first | refine Lt.of ?_ | refine Nn.of ?_ | refine H.ld 0 rfl rfl ?_ | refine H.ld 1 rfl rfl ?_ | refine H.ld 2 rfl rfl ?_ | refine H.ld 3 rfl rfl ?_ | refine H.ld 4 rfl rfl ?_ | refine H.ld 5 rfl rfl ?_ | (refine H.st 0 rfl (by simp) fun _ H => ?_; simp only [List.nil_append, List.cons_append, List.set_cons_zero, List.set_cons_succ, Nat.zero_add] at H) | (refine H.st 1 rfl (by simp) fun _ H => ?_; simp only [List.nil_append, List.cons_append, List.set_cons_zero, List.set_cons_succ, Nat.zero_add] at H) | (refine H.st 2 rfl (by simp) fun _ H => ?_; simp only [List.nil_append, List.cons_append, List.set_cons_zero, List.set_cons_succ, Nat.zero_add] at H) | (refine H.st 3 rfl (by simp) fun _ H => ?_; simp only [List.nil_append, List.cons_append, List.set_cons_zero, List.set_cons_succ, Nat.zero_add] at H) | (refine H.st 4 rfl (by simp) fun _ H => ?_; simp only [List.nil_append, List.cons_append, List.set_cons_zero, List.set_cons_succ, Nat.zero_add] at H) | (refine H.st 5 rfl (by simp) fun _ H => ?_; simp only [List.nil_append, List.cons_append, List.set_cons_zero, List.set_cons_succ, Nat.zero_add] at H))
    refine T83_nil _ _ _ _ ?_
    unfold S83_nil
    refine (c_caught_nil _ _).mono (fun w1 h => ?_) fun _ _ h => h.elim
    subst h
    refine H.ld 3 rfl rfl (Br.ne (fun h => absurd rfl h) fun _ => ?_)
    repeat (first | refine H.ld 0 rfl rfl ?_ | refine H.ld 1 rfl rfl ?_ | refine H.ld 2 rfl rfl ?_ | refine H.ld 3 rfl rfl ?_ | refine H.ld 4 rfl rfl ?_ | refine H.ld 5 rfl rfl ?_)
    refine ⟨?_, H.ext⟩
    rw [happ, hx, hy]
    rfl
  refine ⟨fun w11 => Ext (fun _ => False) w9.drew w11, Ext.refl _ _, ?_⟩
  repeat (first | refine LdS.of hS0 rfl ?_ | refine LdS.of hS1 rfl ?_)
  refine ⟨Nw.of ⟨eN _ _, ?_, Nw.of ?_⟩, Nw.of ⟨eN _ _, Nw.of ⟨(eN _ _).tr (eN _ _), ?_⟩⟩⟩
  · refine (c_dot (row6 (Blk.new _ _ _)) (.inr rfl)).mono (fun r w12 h12 => ?_) fun v w12 h12 => no' (eN _ _) h12.2.2 h12.1 (by rw [happ, h12.2.1]; rfl)
    refine ⟨(eN _ _).tr h12.2, Nw.of ⟨((eN _ _).tr h12.2).tr (eN _ _), ?_⟩⟩
    refine (c_dot (row6 (Blk.new _ _ _)) (.inr rfl)).mono (fun r2 w13 h13 => ?_) fun v w13 h13 => no' (((eN _ _).tr h12.2).tr (eN _ _)) h13.2.2 h13.1 (by rw [happ, h13.2.1]; simp [bnone])
    exact fin _ _ _ ((((eN _ _).tr h12.2).tr (eN _ _)).tr h13.2) h12.1 h13.1
  · refine ⟨(eN _ _).tr (eN _ _), (c_dot (row6 ((eN _ _).blk (Blk.new _ _ _) id)) (.inr rfl)).mono (fun r w12 h12 => ?_) fun v w12 h12 => no' ((eN _ _).tr (eN _ _)) h12.2.2 h12.1 (by rw [happ, h12.2.1]; rfl)⟩
    refine ⟨((eN _ _).tr (eN _ _)).tr h12.2, (c_dot (row6 (h12.2.blk (Blk.new _ _ _) id)) (.inr rfl)).mono (fun r2 w13 h13 => ?_) fun v w13 h13 => no' (((eN _ _).tr (eN _ _)).tr h12.2) h13.2.2 h13.1 (by rw [happ, h13.2.1]; simp [bnone])⟩
    exact fin _ _ _ ((((eN _ _).tr (eN _ _)).tr h12.2).tr h13.2) h12.1 h13.1
  · refine (c_dot (row6 (Blk.new _ _ _)) (.inr rfl)).mono (fun r w12 h12 => ?_) fun v w12 h12 => no' ((eN _ _).tr (eN _ _)) h12.2.2 h12.1 (by rw [happ, h12.2.1]; rfl)
    refine ⟨((eN _ _).tr (eN _ _)).tr h12.2, (c_dot (row6 (h12.2.blk ((eN _ _).blk (Blk.new _ _ _) id) id)) (.inr rfl)).mono (fun r2 w13 h13 => ?_) fun v w13 h13 => no' (((eN _ _).tr (eN _ _)).tr h12.2) h13.2.2 h13.1 (by rw [happ, h13.2.1]; simp [bnone])⟩
    exact fin _ _ _ ((((eN _ _).tr (eN _ _)).tr h12.2).tr h13.2) h12.1 h13.1
/-- The integer square root. -/
def isRoot (n s : Int) : Prop := 0 ≤ s ∧ s * s ≤ n ∧ n < (s + 1) * (s + 1)
theorem isRoot_eq {n s t : Int} (hs : isRoot n s) (ht : isRoot n t) : s = t := by
  obtain ⟨h1, h2, h3⟩ := hs
  obtain ⟨g1, g2, g3⟩ := ht
  rcases Int.lt_trichotomy s t with h | h | h
  · have := Int.mul_le_mul (show s + 1 ≤ t by omega) (show s + 1 ≤ t by omega) (by omega) (by omega)
    omega
  · exact h
  · have := Int.mul_le_mul (show t + 1 ≤ s by omega) (show t + 1 ≤ s by omega) (by omega) (by omega)
    omega
theorem le_div {t n : Int} (ht : 0 < t) (hn : 0 ≤ n) : (t ≤ n / t) ↔ t * t ≤ n := Int.le_ediv_iff_mul_le ht
def flat (m : Mx) : Mx := (m.1, m.2.1, m.2.2.1, m.2.2.2.1, 0, 0)
/-- The length of a vector's image: what Length answers. -/
def IsLen (m : Mx) (p : Int × Int) (x : Int × Int) : Prop := match applyP (flat m) p with
  | none => x = (0, 2)
  | some q => ∃ s, isRoot (q.1 * q.1 + q.2 * q.2) s ∧ x = if 1073741824 < s then (0, 2) else (s, 0)
theorem isLen_eq {m : Mx} {p : Int × Int} {x y : Int × Int} (hx : IsLen m p x) (hy : IsLen m p y) : x = y := by
  unfold IsLen at hx hy
  split at hx
  · rename_i h; rw [h] at hy; rw [hx, hy]
  · rename_i q h
    rw [h] at hy
    obtain ⟨s, h1, h2⟩ := hx
    obtain ⟨t, h3, h4⟩ := hy
    rw [h2, h4, isRoot_eq h1 h3]
theorem applyP_in {m : Mx} {p q : Int × Int} (h : applyP m p = some q) : inW q.1 = true ∧ inW q.2 = true := by
  unfold applyP at h
  split at h
  · obtain ⟨x, h1, h⟩ := Option.bind_eq_some_iff.1 h
    obtain ⟨y, h2, h⟩ := Option.bind_eq_some_iff.1 h
    cases h
    exact ⟨dotP_in h1, dotP_in h2⟩
  · cases h
theorem sq_bd {q : Int × Int} (h1 : inW q.1 = true) (h2 : inW q.2 = true) : 0 ≤ q.1 * q.1 ∧ q.1 * q.1 ≤ 1152921504606846976 ∧ 0 ≤ q.2 * q.2 ∧ q.2 * q.2 ≤ 1152921504606846976 := by
  have h1 := inW_spec.1 h1
  have h2 := inW_spec.1 h2
  exact ⟨by rw [← Int.natAbs_mul_self]; omega, (mul_bd h1 h1).2, by rw [← Int.natAbs_mul_self]; omega, (mul_bd h2 h2).2⟩
def one : Mx := (10000, 0, 0, 10000, 0, 0)
def moveM (x y : Int) : Mx := (10000, 0, 0, 10000, x, y)
def scaleM (x y : Int) : Mx := (x, 0, 0, y, 0, 0)
theorem c_one (w : World) : C7 w fun r w1 => r = one ∧ Ext (fun _ => False) w w1 := by
  refine T7 _ _ ?_
  unfold S7
  refine (Hn.start w).nw fun w3 H => ?_
  repeat (first | refine Lt.of ?_ | refine Nn.of ?_ | refine H.ld 0 rfl rfl ?_ | refine H.ld 1 rfl rfl ?_ | refine H.ld 2 rfl rfl ?_ | refine H.ld 3 rfl rfl ?_ | refine H.ld 4 rfl rfl ?_ | refine H.ld 5 rfl rfl ?_ | (refine H.st 0 rfl (by simp) fun _ H => ?_; simp only [List.nil_append, List.cons_append, List.set_cons_zero, List.set_cons_succ, Nat.zero_add] at H) | (refine H.st 1 rfl (by simp) fun _ H => ?_; simp only [List.nil_append, List.cons_append, List.set_cons_zero, List.set_cons_succ, Nat.zero_add] at H) | (refine H.st 2 rfl (by simp) fun _ H => ?_; simp only [List.nil_append, List.cons_append, List.set_cons_zero, List.set_cons_succ, Nat.zero_add] at H) | (refine H.st 3 rfl (by simp) fun _ H => ?_; simp only [List.nil_append, List.cons_append, List.set_cons_zero, List.set_cons_succ, Nat.zero_add] at H) | (refine H.st 4 rfl (by simp) fun _ H => ?_; simp only [List.nil_append, List.cons_append, List.set_cons_zero, List.set_cons_succ, Nat.zero_add] at H) | (refine H.st 5 rfl (by simp) fun _ H => ?_; simp only [List.nil_append, List.cons_append, List.set_cons_zero, List.set_cons_succ, Nat.zero_add] at H))
  exact ⟨rfl, H.ext⟩
theorem c_move (x y : Int) (w : World) : C13 x y w fun r w1 => r = moveM x y ∧ Ext (fun _ => False) w w1 := by
  refine T13 _ _ _ _ ?_
  unfold S13
  refine (Hn.start w).nw fun w3 H => ?_
  refine (c_one _).mono ?_
  rintro r w4 ⟨rfl, he⟩
  have H := H.keep he
  refine H.nw fun w5 H => ?_
  repeat (first | refine Lt.of ?_ | refine Nn.of ?_ | refine H.ld 0 rfl rfl ?_ | refine H.ld 1 rfl rfl ?_ | refine H.ld 2 rfl rfl ?_ | refine H.ld 3 rfl rfl ?_ | refine H.ld 4 rfl rfl ?_ | refine H.ld 5 rfl rfl ?_ | (refine H.st 0 rfl (by simp) fun _ H => ?_; simp only [List.nil_append, List.cons_append, List.set_cons_zero, List.set_cons_succ, Nat.zero_add] at H) | (refine H.st 1 rfl (by simp) fun _ H => ?_; simp only [List.nil_append, List.cons_append, List.set_cons_zero, List.set_cons_succ, Nat.zero_add] at H) | (refine H.st 2 rfl (by simp) fun _ H => ?_; simp only [List.nil_append, List.cons_append, List.set_cons_zero, List.set_cons_succ, Nat.zero_add] at H) | (refine H.st 3 rfl (by simp) fun _ H => ?_; simp only [List.nil_append, List.cons_append, List.set_cons_zero, List.set_cons_succ, Nat.zero_add] at H) | (refine H.st 4 rfl (by simp) fun _ H => ?_; simp only [List.nil_append, List.cons_append, List.set_cons_zero, List.set_cons_succ, Nat.zero_add] at H) | (refine H.st 5 rfl (by simp) fun _ H => ?_; simp only [List.nil_append, List.cons_append, List.set_cons_zero, List.set_cons_succ, Nat.zero_add] at H))
  exact ⟨rfl, H.ext⟩
/-- The corners of a rectangle. -/
def corner (r : Int × Int × Int × Int) (i : Nat) : Int × Int := if i = 0 then (r.1, r.2.1) else if i = 1 then (r.2.2.1, r.2.1) else if i = 2 then (r.1, r.2.2.2) else (r.2.2.1, r.2.2.2)
/-- The box of the first k + 1 images. -/
def boxK (m : Mx) (r : Int × Int × Int × Int) : Nat → Option (Int × Int × Int × Int)
  | 0 => (applyP m (corner r 0)).map fun q => (q.1, q.2, q.1, q.2)
  | k + 1 => (boxK m r k).bind fun b => (applyP m (corner r (k + 1))).map fun q =>
      ((if q.1 < b.1 then q.1 else b.1), (if q.2 < b.2.1 then q.2 else b.2.1), (if q.1 > b.2.2.1 then q.1 else b.2.2.1), (if q.2 > b.2.2.2 then q.2 else b.2.2.2))
def resB : Option (Int × Int × Int × Int) → (Int × Int × Int × Int) × Int
  | some b => (b, 0)
  | none => ((0, 0, 0, 0), 2)
def rrow (b : Int × Int × Int × Int) : List Value := [.int .i64 b.1, .int .i64 b.2.1, .int .i64 b.2.2.1, .int .i64 b.2.2.2]
@[simp] theorem rrow_len (b : Int × Int × Int × Int) : (rrow b).length = 4 := rfl
@[simp] theorem mrow_len (m : Mx) : (mrow m).length = 6 := rfl
theorem boxK_none {m : Mx} {r : Int × Int × Int × Int} {i : Nat} (h : applyP m (corner r i) = none) : ∀ k, i ≤ k → boxK m r k = none
  | 0, hk => by
    have : i = 0 := by omega
    subst this
    rw [boxK, h]; rfl
  | k + 1, hk => by
    rw [boxK]
    by_cases hi : i = k + 1
    · subst hi
      rw [h]
      cases boxK m r k <;> rfl
    · rw [boxK_none h k (by omega)]
      rfl
end Mat
end Go.Proofs.YtdchpkbpnfoknaaDoor

/- Sums of numbers: fix.Sum and the reference's. Conditions: sizes. -/
namespace Go.Proofs.YtdchpkbpnfoknaaDoor
namespace Pat
open Sh Mat Fix
set_option linter.unusedVariables false
set_option linter.unusedSimpArgs false
set_option maxRecDepth 4000
set_option maxHeartbeats 2000000
/-- The sum of the first k numbers. -/
def ps (l : List Int) : Nat → Int
  | 0 => 0
  | k + 1 => ps l k + l.getD k 0
def sumF (l : List Int) : Int × Int := if l.all inW = true ∧ inW (ps l l.length) = true then (ps l l.length, 0) else (0, 2)
theorem sumF_yes {l : List Int} (ha : allW l) (hn : inW (ps l l.length) = true) : sumF l = (ps l l.length, 0) := if_pos ⟨(all_iff l).2 ha, hn⟩
theorem sumF_no {l : List Int} (h : ¬ allW l ∨ inW (ps l l.length) = false) : sumF l = (0, 2) := if_neg fun h2 => by
  rcases h with h | h
  · exact h ((all_iff l).1 h2.1)
  · rw [h] at h2
    cases h2.2
theorem ps_bd {l : List Int} : ∀ (k : Nat), k ≤ l.length → (∀ i, i < k → inW (l.getD i 0) = true) → -(1073741824 * (k : Int)) ≤ ps l k ∧ ps l k ≤ 1073741824 * (k : Int)
  | 0, _, _ => by simp [ps]
  | k + 1, hk, h => by
    have h1 := ps_bd k (by omega) fun i hi => h i (by omega)
    have h2 := inW_spec.1 (h k (by omega))
    simp only [ps]
    omega
section
variable {w : World} {s : Slc} {l : List Int}
attribute [local irreducible] Ld St Nw Nn Lt LdS
theorem c_sum (h : IRow w s l) (hl : l.length ≤ 1000000) : C66 s w fun r e w1 => (r, e) = sumF l ∧ Ext (fun _ => False) w w1 := by
  refine T66 _ _ _ ?_
  unfold S66
  have hn := h.1
  refine (Hx.start w (fun _ => False)).nw fun w2 H => ?_
  have hs := H.size
  refine H.nw fun w3 H => ?_
  have caught : ∀ (cs1 cs2 : Int) (w4 : World), Hx w (fun _ => False) w4 [(w.heap.size, #[.int .i64 cs1], 2), (w2.heap.size, #[.int .i64 cs2], 26)] → (sumF l = (0, 2)) →
      S66P w w2 (fun r e w1 => (r, e) = sumF l ∧ Ext (fun _ => False) w w1) (refused 2) w4 := fun cs1 cs2 w4 H hd => by
    unfold S66P
    refine T67_T146 _ _ 2 _ _ ?_
    unfold S67_T146
    refine Nn.of (H.st 0 rfl (by simp) (.inr (Nat.le_refl _)) fun w5 H => Nn.of (H.st 1 rfl (by simp) (.inr hs) fun w6 H => H.ld 0 rfl rfl (H.ld 1 rfl rfl ⟨hd.symm, H.ext⟩)))
  have done : ∀ (r e : Int) (w4 : World), Hx w (fun _ => False) w4 [(w.heap.size, #[.int .i64 r], 2), (w2.heap.size, #[.int .i64 e], 26)] → sumF l = (r, e) →
      CD67 (some (⟨w.heap.size, 0, none⟩ : Addr)) (some (⟨w2.heap.size, 0, none⟩ : Addr)) none w4 fun vw15 =>
        Ld vw15 (⟨w.heap.size, 0, none⟩ : Addr) (Value.int .i64) fun (x16 : Int) =>
        Ld vw15 (⟨w2.heap.size, 0, none⟩ : Addr) (Value.int .i64) fun (x17 : Int) =>
        (x16, x17) = sumF l ∧ Ext (fun _ => False) w vw15 := fun r e w4 H hd => by
    refine T67_nil _ _ _ _ ?_
    unfold S67_nil
    exact H.ld 0 rfl rfl (H.ld 1 rfl rfl ⟨hd.symm, H.ext⟩)
  refine (c_bounded (h.keep H.ext) (by omega)).mono (fun w4 h4 => ?_) fun v w4 h4 => ?_
  case refine_2 =>
    obtain ⟨rfl, rfl, ha⟩ := h4
    exact caught _ _ _ H (sumF_no (.inl ha))
  obtain ⟨rfl, ha⟩ := h4
  refine ⟨fun n st w5 => ∃ k : Nat, st = (k : Int) ∧ k ≤ l.length ∧ n = l.length - k ∧ Hx w (fun _ => False) w5 [(w.heap.size, #[.int .i64 (ps l k)], 2), (w2.heap.size, #[.int .i64 0], 26)], l.length, ⟨0, rfl, by omega, rfl, H⟩, ?_⟩
  rintro n st w5 ⟨k, rfl, hk, rfl, H⟩
  unfold S66L1
  rw [hn]
  have hbd := ps_bd k hk fun i hi => ha i (by omega)
  refine Br.dec (fun e3 => ?_) fun e3 => ?_
  · obtain ⟨a, haa, hc1⟩ := (h.keep H.ext).2 k (by omega)
    rw [haa, Int.toNat_natCast, Nat.mul_one]
    have h1 := inW_spec.1 (ha k (by omega))
    refine ⟨by omega, by omega, Nn.of (Ld.mk hc1 (H.ld 0 rfl rfl ?_))⟩
    rw [i64_id (n := ps l k + l.getD k 0) (by omega)]
    exact H.st 0 rfl (by simp) (.inr (Nat.le_refl _)) fun w6 H => ⟨l.length - (k + 1), by omega, k + 1, by rw [i64_id (by omega)]; rfl, by omega, rfl, H⟩
  · have hk2 : k = l.length := by omega
    refine H.ld 0 rfl rfl ?_
    refine (c_answer _ _).mono (fun r w7 h7 => ?_) fun v w7 h7 => ?_
    · obtain ⟨rfl, hw, he⟩ := h7
      have H := H.keep he
      exact H.st 0 rfl (by simp) (.inr (Nat.le_refl _)) fun w8 H => H.st 1 rfl (by simp) (.inr hs) fun w9 H => done _ 0 _ H (by rw [hk2] at hw ⊢; exact sumF_yes ha hw)
    · obtain ⟨rfl, hw, he⟩ := h7
      exact caught _ _ _ (H.keep he) (sumF_no (.inr (by rw [← hk2]; exact hw)))
end
end Pat
end Go.Proofs.YtdchpkbpnfoknaaDoor

/- Numbers read bit by bit: plain laws, no program in sight. No condition. -/
namespace Go.Proofs.YtdchpkbpnfoknaaDoor
namespace Bit
open Sh
set_option linter.unusedVariables false

/-- Byte i of a string, as a number. -/
def byt (s : ByteArray) (i : Nat) : Int := ((s.data.getD i 0).toNat : Int)
theorem byt_bd (s : ByteArray) (i : Nat) : 0 ≤ byt s i ∧ byt s i ≤ 255 := by
  unfold byt
  have := (s.data.getD i 0).toNat_lt
  omega
theorem bAt_byt (s : ByteArray) (i : Nat) : bAt s (i : Int) = byt s i := by
  unfold bAt byt
  rw [Int.toNat_natCast]
/-- Bit p of a string, in the order 'way' (1: least significant first). -/
def bt (s : ByteArray) (way : Int) (p : Nat) : Int := if way = 1 then byt s (p / 8) / 2 ^ (p % 8) % 2 else byt s (p / 8) / 2 ^ (7 - p % 8) % 2
theorem bt_bd (s : ByteArray) (way : Int) (p : Nat) : 0 ≤ bt s way p ∧ bt s way p ≤ 1 := by
  unfold bt
  split <;> omega
/-- The number in i bits from p on. -/
def tk (s : ByteArray) (way : Int) (p : Nat) : Nat → Int
  | 0 => 0
  | i + 1 => if way = 1 then tk s way p i + bt s way (p + i) * 2 ^ i else 2 * tk s way p i + bt s way (p + i)
theorem two_pow_pos (i : Nat) : (0 : Int) < 2 ^ i := Int.pow_pos (by decide)
theorem two_pow_succ (i : Nat) : (2 : Int) ^ (i + 1) = 2 * 2 ^ i := by rw [Int.pow_succ]; omega
theorem two_pow_le {i j : Nat} (h : i ≤ j) : (2 : Int) ^ i ≤ 2 ^ j := by
  obtain ⟨d, rfl⟩ := Nat.exists_eq_add_of_le h
  induction d with
  | zero => exact Int.le_refl _
  | succ d ih => have := ih (by omega); rw [← Nat.add_assoc, two_pow_succ]; have := two_pow_pos (i + d); omega
theorem two_pow_24 {i : Nat} (h : i ≤ 24) : (2 : Int) ^ i ≤ 16777216 := by
  have := two_pow_le h
  have e : (2 : Int) ^ 24 = 16777216 := by decide
  omega
theorem tk_bd (s : ByteArray) (way : Int) (p : Nat) : ∀ i, 0 ≤ tk s way p i ∧ tk s way p i < 2 ^ i
  | 0 => by simp [tk]
  | i + 1 => by
    have ih := tk_bd s way p i
    have hb := bt_bd s way (p + i)
    have hp := two_pow_pos i
    rw [two_pow_succ]
    unfold tk
    split
    · have h1 : bt s way (p + i) = 0 ∨ bt s way (p + i) = 1 := by omega
      rcases h1 with h1 | h1 <;> rw [h1] <;> omega
    · omega
/-- Reading i bits, then j bits. -/
theorem tk_low (s : ByteArray) (p i : Nat) : ∀ j, tk s 1 p (i + j) = tk s 1 (p + i) j * 2 ^ i + tk s 1 p i
  | 0 => by simp [tk]
  | j + 1 => by
    have ih := tk_low s p i j
    rw [← Nat.add_assoc]
    simp only [tk, if_true]
    rw [ih, ← Nat.add_assoc, Int.pow_add, Int.add_mul, Int.mul_assoc, Int.mul_comm ((2 : Int) ^ i)]
    omega
theorem tk_high (s : ByteArray) (p i : Nat) : ∀ j, tk s 2 p (i + j) = tk s 2 p i * 2 ^ j + tk s 2 (p + i) j
  | 0 => by simp [tk]
  | j + 1 => by
    have ih := tk_high s p i j
    rw [← Nat.add_assoc]
    simp only [tk, show ¬ ((2 : Int) = 1) by decide, if_false]
    rw [ih, two_pow_succ, Int.mul_add, ← Nat.add_assoc]
    have : tk s 2 p i * (2 * 2 ^ j) = 2 * (tk s 2 p i * 2 ^ j) := by rw [Int.mul_left_comm]
    omega

/-! ### The bit operations on small numbers -/

theorem ofInt_nat (n x : Nat) : BitVec.ofInt n (x : Int) = BitVec.ofNat n x := by
  apply BitVec.eq_of_toNat_eq
  simp
theorem iand_nat {x y : Nat} (hx : x < 2 ^ 63) (hy : y < 2 ^ 63) : iand .i64 (x : Int) (y : Int) = ((x &&& y : Nat) : Int) := by
  unfold iand
  rw [ofInt_nat, ofInt_nat]
  have h1 : (BitVec.ofNat IntKind.i64.bits x &&& BitVec.ofNat IntKind.i64.bits y).toNat = x &&& y := by
    rw [BitVec.toNat_and, BitVec.toNat_ofNat, BitVec.toNat_ofNat, Nat.mod_eq_of_lt (by simp [IntKind.bits]; omega), Nat.mod_eq_of_lt (by simp [IntKind.bits]; omega)]
  rw [h1]
  have h2 : x &&& y < 2 ^ 63 := Nat.and_lt_two_pow x hy
  exact i64_id (by omega)
theorem ior_nat {x y : Nat} (hx : x < 2 ^ 63) (hy : y < 2 ^ 63) : ior .i64 (x : Int) (y : Int) = ((x ||| y : Nat) : Int) := by
  unfold ior
  rw [ofInt_nat, ofInt_nat]
  have h1 : (BitVec.ofNat IntKind.i64.bits x ||| BitVec.ofNat IntKind.i64.bits y).toNat = x ||| y := by
    rw [BitVec.toNat_or, BitVec.toNat_ofNat, BitVec.toNat_ofNat, Nat.mod_eq_of_lt (by simp [IntKind.bits]; omega), Nat.mod_eq_of_lt (by simp [IntKind.bits]; omega)]
  rw [h1]
  have h2 : x ||| y < 2 ^ 63 := Nat.or_lt_two_pow hx hy
  exact i64_id (by omega)
theorem ior_u8_nat {x y : Nat} (hx : x < 2 ^ 8) (hy : y < 2 ^ 8) : ior .u8 (x : Int) (y : Int) = ((x ||| y : Nat) : Int) := by
  unfold ior
  rw [ofInt_nat, ofInt_nat]
  have h1 : (BitVec.ofNat IntKind.u8.bits x ||| BitVec.ofNat IntKind.u8.bits y).toNat = x ||| y := by
    rw [BitVec.toNat_or, BitVec.toNat_ofNat, BitVec.toNat_ofNat, Nat.mod_eq_of_lt (by simp [IntKind.bits]; omega), Nat.mod_eq_of_lt (by simp [IntKind.bits]; omega)]
  rw [h1]
  have h2 : x ||| y < 2 ^ 8 := Nat.or_lt_two_pow hx hy
  exact u8_id (by omega)
theorem iand_one {x : Int} (h0 : 0 ≤ x) (h1 : x < 9223372036854775808) : iand .i64 x 1 = x % 2 := by
  obtain ⟨n, rfl⟩ := Int.eq_ofNat_of_zero_le h0
  rw [show (1 : Int) = ((1 : Nat) : Int) from rfl, iand_nat (by omega) (by omega), Nat.and_one_is_mod]
  omega
/-- Or-ing in a bit that is not there yet. -/
theorem or_shift {x b i : Nat} (hx : x < 2 ^ i) : x ||| b * 2 ^ i = x + b * 2 ^ i := by
  rw [Nat.or_comm, ← Nat.shiftLeft_eq, ← Nat.shiftLeft_add_eq_or_of_lt hx, Nat.add_comm]
theorem ior_low {x b : Int} {i : Nat} (h0 : 0 ≤ x) (h1 : x < 2 ^ i) (hb : 0 ≤ b ∧ b ≤ 1) (hi : i ≤ 24) : ior .i64 x (b * 2 ^ i) = x + b * 2 ^ i := by
  obtain ⟨n, rfl⟩ := Int.eq_ofNat_of_zero_le h0
  obtain ⟨c, rfl⟩ := Int.eq_ofNat_of_zero_le hb.1
  have e : ((c : Int) * 2 ^ i) = ((c * 2 ^ i : Nat) : Int) := by simp
  have hn : n < 2 ^ i := by exact_mod_cast h1
  have hp' : 2 ^ i ≤ 2 ^ 24 := Nat.pow_le_pow_right (by decide) hi
  have h24 : (2 : Nat) ^ 24 = 16777216 := by decide
  have hc : c * 2 ^ i ≤ 1 * 2 ^ i := Nat.mul_le_mul_right _ (by omega)
  rw [e, ior_nat (by omega) (by omega), or_shift hn, Int.natCast_add]
theorem ior_high {x b : Int} (h0 : 0 ≤ x) (h1 : x < 16777216) (hb : 0 ≤ b ∧ b ≤ 1) : ior .i64 (x * 2) b = 2 * x + b := by
  obtain ⟨n, rfl⟩ := Int.eq_ofNat_of_zero_le h0
  obtain ⟨c, rfl⟩ := Int.eq_ofNat_of_zero_le hb.1
  have e : ((n : Int) * 2) = ((n * 2 : Nat) : Int) := by omega
  rw [e, ior_nat (by omega) (by omega), Nat.or_comm]
  have := or_shift (x := c) (b := n) (i := 1) (by omega)
  simp only [Nat.pow_one] at this
  rw [this]
  omega
theorem fdiv_pow {x : Int} {i : Nat} : Int.fdiv x (2 ^ i) = x / 2 ^ i := Int.fdiv_eq_ediv_of_nonneg x (Int.le_of_lt (two_pow_pos i))
theorem ediv_pow_bd {x : Int} {i : Nat} (h : 0 ≤ x) : 0 ≤ x / 2 ^ i ∧ x / 2 ^ i ≤ x :=
  ⟨Int.ediv_nonneg h (Int.le_of_lt (two_pow_pos i)), Int.ediv_le_self _ h⟩
end Bit
end Go.Proofs.YtdchpkbpnfoknaaDoor

/- Content operators: which operands an operator takes; a string's fields, as the library finds them; plain. No condition. -/
namespace Go.Proofs.YtdchpkbpnfoknaaDoor
namespace Opr
open Sh
set_option linter.unusedVariables false
set_option linter.unusedSimpArgs false
abbrev By := List UInt8
/-- The rows of the table: the operands, the names in one string, the names. -/
def rows : List (By × By × List By) := [
  ([], [98, 32, 66, 32, 98, 42, 32, 66, 42, 32, 66, 84, 32, 69, 84, 32, 69, 77, 67, 32, 66, 88, 32, 69, 88, 32, 102, 32, 70, 32, 102, 42, 32, 104, 32, 110, 32, 113, 32, 81, 32, 115, 32, 83, 32, 84, 42, 32, 87, 32, 87, 42], [[98], [66], [98, 42], [66, 42], [66, 84], [69, 84], [69, 77, 67], [66, 88], [69, 88], [102], [70], [102, 42], [104], [110], [113], [81], [115], [83], [84, 42], [87], [87, 42]]),
  ([110], [103, 32, 71, 32, 105, 32, 106, 32, 74, 32, 77, 32, 119, 32, 84, 99, 32, 84, 76, 32, 84, 114, 32, 84, 115, 32, 84, 119, 32, 84, 122], [[103], [71], [105], [106], [74], [77], [119], [84, 99], [84, 76], [84, 114], [84, 115], [84, 119], [84, 122]]),
  ([110, 110], [100, 48, 32, 108, 32, 109, 32, 84, 100, 32, 84, 68], [[100, 48], [108], [109], [84, 100], [84, 68]]),
  ([110, 110, 110], [114, 103, 32, 82, 71], [[114, 103], [82, 71]]),
  ([110, 110, 110, 110], [107, 32, 75, 32, 114, 101, 32, 118, 32, 121], [[107], [75], [114, 101], [118], [121]]),
  ([110, 110, 110, 110, 110, 110], [99, 32, 99, 109, 32, 100, 49, 32, 84, 109], [[99], [99, 109], [100, 49], [84, 109]]),
  ([78], [66, 77, 67, 32, 99, 115, 32, 67, 83, 32, 68, 111, 32, 103, 115, 32, 77, 80, 32, 114, 105, 32, 115, 104], [[66, 77, 67], [99, 115], [67, 83], [68, 111], [103, 115], [77, 80], [114, 105], [115, 104]]),
  ([78, 110], [84, 102], [[84, 102]]),
  ([78, 42], [66, 68, 67, 32, 68, 80], [[66, 68, 67], [68, 80]]),
  ([115], [84, 106, 32, 39], [[84, 106], [39]]),
  ([110, 110, 115], [34], [[34]]),
  ([97], [84, 74], [[84, 74]]),
  ([97, 110], [100], [[100]]),
  ([100], [66, 73], [[66, 73]])]
/-- What a name takes. -/
def takesL (name : By) : List (By × By × List By) → By
  | [] => [63]
  | r :: rs => if name ∈ r.2.2 then r.1 else takesL name rs
def takes (name : By) : By := takesL name rows
/-! ### Fields -/
def spB (b : UInt8) : Bool := b == 9 || b == 10 || b == 11 || b == 12 || b == 13 || b == 32
def at' (s : By) (i : Nat) : UInt8 := s.getD i 0
/-- The first place from i on that is no space. -/
def skip (s : By) : Nat → Nat → Nat
  | 0, i => i
  | f + 1, i => if i < s.length ∧ spB (at' s i) = true then skip s f (i + 1) else i
/-- How many fields begin among the first i bytes, and whether byte i - 1 is a space. -/
def cnt (s : By) : Nat → Nat × Bool
  | 0 => (0, true)
  | i + 1 => ((cnt s i).1 + (if (cnt s i).2 = true ∧ spB (at' s i) = false then 1 else 0), spB (at' s i))
def runF (s : By) (n : Nat) : Nat → Nat → Nat → List By → Option (List By)
  | 0, _, _, _ => none
  | f + 1, i, fs, out => if i < s.length then
      (if spB (at' s i) = false then runF s n f (i + 1) fs out
      else if out.length < n then runF s n f (skip s (s.length + 1) (i + 1)) (skip s (s.length + 1) (i + 1)) (out ++ [(s.drop fs).take (i - fs)]) else none)
    else if fs < s.length then (if out.length < n then some (out ++ [(s.drop fs).take (s.length - fs)]) else none) else some out
/-- What Fields answers to ASCII. -/
def fieldsM (s : By) : Option (List By) := if s.all (fun b => decide (b < 128)) then
    (match runF s (cnt s s.length).1 (s.length + 1) (skip s (s.length + 1) 0) (skip s (s.length + 1) 0) [] with
    | some l => if l.length = (cnt s s.length).1 then some l else none
    | none => none)
  else none
theorem rows_ok : (rows.all fun r => decide (fieldsM r.2.1 = some r.2.2)) = true := by decide +kernel
end Opr
end Go.Proofs.YtdchpkbpnfoknaaDoor

/- What 'append' does to a slice that owns its row; reading and writing a row; bytes to a string. Conditions: sizes. -/
namespace Go.Proofs.YtdchpkbpnfoknaaDoor
namespace Sh
set_option linter.unusedVariables false
set_option linter.unusedSimpArgs false

/-- A slice that owns its row: its elements' cells are xs (k cells an element of type e). -/
def Row (w : World) (s : Slc) (e : TypeId) (k : Nat) (xs : List Value) : Prop :=
  xs.length = s.len * k ∧ (s = ⟨none, 0, 0⟩ ∨ ∃ g cur, s.p = some ⟨g, 0, none⟩ ∧ Blk w g cur e ∧ s.len ≤ s.cap ∧ cur.size = s.cap * k ∧ cur.toList.take (s.len * k) = xs)
/-- Block j is the slice's row. -/
def Slc.own (s : Slc) (j : Nat) : Prop := ∃ a, s.p = some a ∧ a.block = j
theorem Row.nil (w : World) (e : TypeId) (k : Nat) : Row w ⟨none, 0, 0⟩ e k [] := ⟨by simp, .inl rfl⟩
theorem Row.own_lt {w : World} {s : Slc} {e : TypeId} {k : Nat} {xs : List Value} (h : Row w s e k xs) {j : Nat} (hj : s.own j) : j < w.heap.size := by
  obtain ⟨a, ha, rfl⟩ := hj
  rcases h.2 with rfl | ⟨g, cur, hp, hb, _⟩
  · cases ha
  · rw [hp] at ha; cases ha; exact hb.lt
theorem Row.keep {F : Nat → Prop} {w w' : World} {s : Slc} {e : TypeId} {k : Nat} {xs : List Value} (h : Row w s e k xs) (he : Ext F w w') (hn : ∀ j, s.own j → ¬ F j) : Row w' s e k xs := by
  refine ⟨h.1, ?_⟩
  rcases h.2 with h2 | ⟨g, cur, hp, hb, r⟩
  · exact .inl h2
  · exact .inr ⟨g, cur, hp, he.blk hb (hn g ⟨_, hp, rfl⟩), r⟩
theorem Row.new (w : World) (cs : Array Value) (e : TypeId) (k n : Nat) (h : cs.size = n * k) : Row (w.alloc (.cells cs e)) ⟨some ⟨w.heap.size, 0, none⟩, n, n⟩ e k cs.toList :=
  ⟨by simpa using h, .inr ⟨_, cs, rfl, Blk.new w cs e, Nat.le_refl _, h, List.take_of_length_le (by simp [h])⟩⟩
/-- A cell of a row. -/
theorem Row.cell {w : World} {s : Slc} {e : TypeId} {k : Nat} {xs : List Value} (h : Row w s e k xs) {j : Nat} {v : Value} (hj : xs[j]? = some v) : ∃ g, s.p = some ⟨g, 0, none⟩ ∧ w.cell? ⟨g, j, none⟩ = some v := by
  rcases h.2 with h2 | ⟨g, cur, hp, hb, _, _, ht⟩
  · have h1 := h.1
    rw [h2] at h1
    have : xs = [] := List.eq_nil_of_length_eq_zero (by simpa using h1)
    rw [this] at hj; cases hj
  · refine ⟨g, hp, ?_⟩
    rw [hb.cell]
    rw [← ht, List.getElem?_take] at hj
    split at hj
    · simpa using hj
    · cases hj

section
variable {P : Program} {w : World} {s : Slc} {t u ty e : TypeId} {i : TypeInfo} {z : Value} {xs news : List Value} {x : Value} {m : Nat}

/-- **append**: the source is 'x', of which it is known what its cells are. -/
theorem append_any (ht : P.underlying t = some (.slice e)) (hu : (∃ e', P.underlying u = some (.slice e')) ∨ P.underlying u = some .string) (hi : P.info? e = some i) (hz : i.zero = some z) (hzs : z.cells.size = i.size)
    (hlen : Builtin.lenOf x = pure m) (hcells : ∀ w' : World, w'.heap = w.heap → (Builtin.firstCells i.size m x).run P w' = .ok news.toArray w') (hl : news.length = m * i.size)
    (h1 : ∀ v ∈ news, v.oneCell' = true) (own : Row w s e i.size xs) (hb : (s.len + m) * i.bytes ≤ 140737488355328) (h63 : s.len + m ≤ 9223372036854775807) :
    ∃ s' w', RunV P (Builtin.append_ #[t, u] ty #[Slc.v s, x]) w (Slc.v s') w' ∧ Row w' s' e i.size (xs ++ news) ∧ s'.len = s.len + m ∧ Ext s.own w w' ∧ ∀ j, s'.own j → s.own j ∨ w.heap.size ≤ j := by
  have hx1 := own.1
  have hlenr : (xs ++ news).length = (s.len + m) * i.size := by rw [List.length_append, hx1, hl, Nat.add_mul]
  -- a new row
  have grown : ∀ (c : Nat), Row (w.drew.alloc (.cells (xs.toArray ++ news.toArray ++ Builtin.zeroCells z.cells (grownCap w (s.len + m) c e - (s.len + m))) e))
      ⟨some ⟨w.heap.size, 0, none⟩, s.len + m, grownCap w (s.len + m) c e⟩ e i.size (xs ++ news) := by
    intro c
    have hge := grownCap_ge w (s.len + m) c e
    refine ⟨hlenr, .inr ⟨_, _, rfl, Blk.new w.drew _ e, hge, ?_, ?_⟩⟩
    · simp only [Array.size_append, List.size_toArray, size_zeroCells, hzs, hx1, hl, ← Nat.add_mul]
      congr 1
      omega
    · simp only [Array.toList_append]
      rw [← hlenr]
      exact List.take_left
  have hfits : ∀ c, c < s.len + m → Builtin.nextslicecap (s.len + m) c * i.bytes ≤ 281474976710656 := fun c hc => growslice_fits hc hb
  have h63' : ¬ (((s.len + m : Nat) : Int) > IntKind.i64.max) := by
    have : IntKind.i64.max = 9223372036854775807 := by decide
    omega
  have hd : w.drew.heap = w.heap := rfl
  rcases own.2 with rfl | ⟨g, cur, hp, hg, hle, hsz, htk⟩
  · -- the slice is nil
    have hx : xs = [] := List.eq_nil_of_length_eq_zero (by simpa using hx1)
    subst hx
    by_cases hm : m = 0
    · subst hm
      have hn : news = [] := List.eq_nil_of_length_eq_zero (by simpa using hl)
      subst hn
      refine ⟨⟨none, 0, 0⟩, w, ?_, Row.nil w e i.size, rfl, Ext.refl _ _, fun j hj => .inl hj⟩
      have hc := hcells w rfl
      rcases hu with ⟨e', hu⟩ | hu <;>
        simp [RunV, Slc.v, Builtin.append_, run_underlying ht, run_underlying hu, sizeOf, typeInfo, hi, hlen, hc]
    · refine ⟨_, _, ?_, grown 0, rfl, ((Ext.refl _ w).drew).alloc _, fun j hj => ?_⟩
      · have hc := hcells w.drew hd
        have hn : ¬ (0 + m ≤ 0) := by omega
        have hf := hfits 0 (by simp; omega)
        simp only [Nat.zero_add] at hf h63'
        have hf' : ¬ (281474976710656 < Builtin.nextslicecap m 0 * i.bytes) := by omega
        have h6 : ¬ (9223372036854775807 < (m : Int)) := by simp only [Nat.zero_add] at h63; omega
        rcases hu with ⟨e', hu⟩ | hu <;>
          simp [RunV, Slc.v, Builtin.append_, run_underlying ht, run_underlying hu, sizeOf, typeInfo, zeroValue, hi, hz, hlen, hm, h6, hf', Question.forced, run_firstCells_none, hc, newRow, grownCap]
      · obtain ⟨a, ha, rfl⟩ := hj
        cases ha
        exact .inr (Nat.le_refl _)
  · obtain ⟨p, len, cap⟩ := s
    simp only at hp hle hsz htk hx1 hlenr hb h63 h63' hfits grown
    subst hp
    by_cases hroom : len + m ≤ cap
    · -- there is room
      have hfit : len * i.size + news.length ≤ cur.size := by rw [hl, hsz, ← Nat.add_mul]; exact Nat.mul_le_mul_right _ hroom
      have hst := run_storeCells_at P g (len * i.size) e news 0 cur w hg (by simpa using hfit) h1
      simp only [Nat.add_zero] at hst
      have hc := hcells w rfl
      refine ⟨⟨some ⟨g, 0, none⟩, len + m, cap⟩, w.setRow g (cur.toList.take (len * i.size) ++ news ++ cur.toList.drop (len * i.size + news.length)).toArray, ?_, ⟨hlenr, .inr ⟨g, (cur.toList.take (len * i.size) ++ news ++ cur.toList.drop (len * i.size + news.length)).toArray, rfl, setRow_heap w g cur _ e _ hg, hroom, ?_, ?_⟩⟩, rfl, ⟨rfl, rfl, rfl, by simp [World.setRow], fun k _ hk => setRow_other w g k _ (fun e => hk ⟨_, rfl, e.symm⟩)⟩, fun j hj => .inl hj⟩
      · rcases hu with ⟨e', hu⟩ | hu <;>
          simp [RunV, Slc.v, Builtin.append_, run_underlying ht, run_underlying hu, sizeOf, typeInfo, hi, hlen, hroom, hc, hst]
      · simp only [List.size_toArray, List.length_append, List.length_take, List.length_drop, Array.length_toList]
        omega
      · rw [htk]
        show List.take ((len + m) * i.size) _ = _
        rw [← hlenr]
        exact List.take_left
    · -- it must grow
      refine ⟨_, _, ?_, grown cap, rfl, ((Ext.refl _ w).drew).alloc _, fun j hj => ?_⟩
      · have hc := hcells w.drew hd
        have hf := hfits cap (by omega)
        have hf' : ¬ (281474976710656 < Builtin.nextslicecap (len + m) cap * i.bytes) := by omega
        have h6 : ¬ (9223372036854775807 < ((len : Int) + (m : Int))) := by omega
        have holds : ∀ j v, xs[j]? = some v → w.drew.cell? ((⟨g, 0, none⟩ : Addr).add j) = some v := fun j v hj => by
          obtain ⟨g', hg', h⟩ := own.cell hj
          cases hg'
          simpa using h
        have hfo := run_firstCells_some (P := P) w.drew i.size len ⟨g, 0, none⟩ len cap xs hx1 holds
        rcases hu with ⟨e', hu⟩ | hu <;>
          simp [RunV, Slc.v, Builtin.append_, run_underlying ht, run_underlying hu, sizeOf, typeInfo, zeroValue, hi, hz, hlen, hroom, h6, hf', Question.forced, hfo, hc, newRow, grownCap] <;>
          (congr 2; apply Array.ext'; simp [List.append_assoc])
      · obtain ⟨a, ha, rfl⟩ := hj
        cases ha
        exact .inr (Nat.le_refl _)
end
end Sh
end Go.Proofs.YtdchpkbpnfoknaaDoor

/- Rows of elements of any type: append, make, element by element. Conditions: sizes. -/
namespace Go.Proofs.YtdchpkbpnfoknaaDoor
namespace Sh
set_option linter.unusedVariables false
set_option linter.unusedSimpArgs false

/-- A slice type t of elements e: k cells and B bytes each, zero value zs. -/
structure El (P : Program) (t e : TypeId) (k B : Nat) (z : Value) : Prop where
  und : P.underlying t = some (.slice e)
  size : (P.info? e).map (·.size) = some k
  bytes : (P.info? e).map (·.bytes) = some B
  zero : (P.info? e).bind (·.zero) = some z
  cells : z.cells.size = k
/-- The cells of a slice's elements can be read. -/
def VRow (w : World) (s : Slc) (k : Nat) (ys : List Value) : Prop := ys.length = s.len * k ∧ ∀ j v, ys[j]? = some v → ∃ a, s.p = some a ∧ w.cell? (a.add j) = some v
theorem VRow.keep {w w' : World} {s : Slc} {k : Nat} {ys : List Value} (h : VRow w s k ys) (he : Ext (fun _ => False) w w') : VRow w' s k ys :=
  ⟨h.1, fun j v hj => by obtain ⟨a, ha, hc⟩ := h.2 j v hj; exact ⟨a, ha, he.cell_same hc⟩⟩
theorem add_block (a : Addr) (n : Nat) : (a.add n).block = a.block := by unfold Addr.add; split <;> (try split) <;> rfl
theorem VRow.keepF {F : Nat → Prop} {w w' : World} {s : Slc} {k : Nat} {ys : List Value} (h : VRow w s k ys) (he : Ext F w w') (hF : ∀ j, s.own j → ¬ F j) : VRow w' s k ys :=
  ⟨h.1, fun j v hj => by
    obtain ⟨a, ha, hc⟩ := h.2 j v hj
    refine ⟨a, ha, ?_⟩
    rw [he.cell (cell_lt' hc) (by rw [add_block]; exact hF _ ⟨a, ha, rfl⟩)]
    exact hc⟩
theorem Row.view {w : World} {s : Slc} {e : TypeId} {k : Nat} {xs : List Value} (h : Row w s e k xs) : VRow w s k xs :=
  ⟨h.1, fun j v hj => by
    obtain ⟨g, hg, hc⟩ := h.cell hj
    exact ⟨_, hg, by rw [add_lit, Nat.zero_add]; exact hc⟩⟩
/-- A row that has just been written. -/
theorem VRow.of {w : World} {b n k : Nat} {cs : List Value} {t : TypeId} (hb : Blk w b cs.toArray t) (hn : cs.length = n * k) : VRow w ⟨some ⟨b, 0, none⟩, n, n⟩ k cs :=
  ⟨hn, fun j v hj => ⟨_, rfl, by rw [add_lit, hb.cell, Nat.zero_add]; simpa using hj⟩⟩
section
variable {P : Program} {t e : TypeId} {k B : Nat} {z : Value} {w : World} {s s2 : Slc} {ty : TypeId} {xs ys : List Value}
theorem El.info (h : El P t e k B z) : ∃ i, P.info? e = some i ∧ i.size = k ∧ i.bytes = B ∧ i.zero = some z := by
  cases hi : P.info? e with
  | none => have := h.size; rw [hi] at this; cases this
  | some i =>
    have h1 := h.size; have h2 := h.bytes; have h3 := h.zero
    rw [hi] at h1 h2 h3
    exact ⟨i, rfl, by simpa using h1, by simpa using h2, by simpa using h3⟩
/-- append(s, s2...). -/
theorem El.app (h : El P t e k B z) (own : Row w s e k xs) (h2 : VRow w s2 k ys) (h1 : ∀ v ∈ ys, v.oneCell' = true) (hb : (s.len + s2.len) * B ≤ 140737488355328) (h63 : s.len + s2.len ≤ 9223372036854775807) :
    ∃ s' w', RunV P (Builtin.append_ #[t, t] ty #[Slc.v s, Slc.v s2]) w (Slc.v s') w' ∧ Row w' s' e k (xs ++ ys) ∧ s'.len = s.len + s2.len ∧ Ext s.own w w' ∧ ∀ j, s'.own j → s.own j ∨ w.heap.size ≤ j := by
  obtain ⟨i, hi, rfl, rfl, hz⟩ := h.info
  refine append_any (P := P) (w := w) (s := s) (t := t) (u := t) (ty := ty) (e := e) (i := i) (z := z) (xs := xs) (news := ys) (x := Slc.v s2) (m := s2.len) h.und (.inl ⟨_, h.und⟩) hi hz h.cells rfl (fun w' hw' => ?_) h2.1 h1 own hb h63
  obtain ⟨p, len, cap⟩ := s2
  cases p with
  | none =>
    have hy : ys = [] := by
      cases ys with
      | nil => rfl
      | cons y r =>
        obtain ⟨a, ha, _⟩ := h2.2 0 y rfl
        cases ha
    subst hy
    have hl := h2.1
    simp only [List.length_nil] at hl
    exact run_firstCells_none (P := P) (w := w') _ _ _ _
  | some a =>
    refine run_firstCells_some w' i.size len a len cap ys h2.1 fun j v hj => ?_
    obtain ⟨a', ha, hc⟩ := h2.2 j v hj
    cases ha
    unfold World.cell? at hc ⊢
    rw [hw']
    exact hc
/-- append(s, x). -/
theorem El.app1 (h : El P t e k B z) {g : Nat} (own : Row w s e k xs) (hg : Blk w g ys.toArray e) (hl : ys.length = k) (h1 : ∀ v ∈ ys, v.oneCell' = true) (hb : (s.len + 1) * B ≤ 140737488355328) (h63 : s.len + 1 ≤ 9223372036854775807) :
    ∃ s' w', RunV P (Builtin.append_ #[t, t] ty #[Slc.v s, Slc.v ⟨some ⟨g, 0, none⟩, 1, 1⟩]) w (Slc.v s') w' ∧ Row w' s' e k (xs ++ ys) ∧ s'.len = s.len + 1 ∧ Ext s.own w w' ∧ ∀ j, s'.own j → s.own j ∨ w.heap.size ≤ j :=
  h.app (s2 := ⟨some ⟨g, 0, none⟩, 1, 1⟩) own (VRow.of hg (by omega)) h1 hb h63
theorem flat_get {zs : List Value} (hk : zs.length = k) : ∀ (c j : Nat), ((List.replicate c zs).flatten)[j]? = if j < c * k then zs[j % k]? else none
  | 0, j => by simp
  | c + 1, j => by
    rw [List.replicate_succ, List.flatten_cons]
    by_cases hj : j < k
    · rw [List.getElem?_append_left (by omega), if_pos (by rw [Nat.add_mul]; omega), Nat.mod_eq_of_lt hj]
    · rw [List.getElem?_append_right (by omega), flat_get hk c (j - zs.length), hk, Nat.add_mul, Nat.one_mul]
      by_cases h2 : j < c * k + k
      · have hm : j % k = (j - k) % k := by
          rw [← Nat.add_mod_right (j - k) k, Nat.sub_add_cancel (by omega)]
        rw [if_pos (by omega), if_pos h2, hm]
      · rw [if_neg (by omega), if_neg h2]
theorem made_list {zs : List Value} (hz : z.cells.toList = zs) (hk : zs.length = k) (c : Nat) : (madeCells z.cells (c * k)).toList = (List.replicate c zs).flatten := by
  have hsz : z.cells.size = k := by rw [← Array.length_toList, hz, hk]
  apply List.ext_getElem?
  intro j
  rw [flat_get hk]
  by_cases hj : j < c * k
  · have hk0 : 0 < k := by
      rcases Nat.eq_zero_or_pos k with h | h
      · subst h; omega
      · exact h
    have hm : j % k < k := Nat.mod_lt _ hk0
    rw [if_pos hj]
    unfold madeCells
    simp only [Array.toList_map, Array.toList_range, List.getElem?_map, List.getElem?_range hj, Option.map_some, hsz]
    rw [← hz, Array.getElem?_toList]
    have : j % k < z.cells.size := by omega
    rw [Array.getElem?_eq_getElem this]
    simp [Array.getElem!_eq_getD, Array.getD, this]
  · rw [if_neg hj, List.getElem?_eq_none]
    rw [Array.length_toList, size_madeCells]
    omega
/-- make. -/
theorem El.make (h : El P t e k B z) {zs : List Value} (hz : z.cells.toList = zs) (w : World) (n : Nat) (hb : B * n ≤ 281474976710656) (h63 : n ≤ 9223372036854775807) :
    ∃ w', RunV P (Instr.makeSlice t (.int .i64 (n : Int)) (.int .i64 (n : Int))) w (Slc.v ⟨some ⟨w.heap.size, 0, none⟩, n, n⟩) w' ∧ w' = w.alloc (.cells ((List.replicate n zs).flatten).toArray e) := by
  obtain ⟨i, hi, rfl, rfl, hzi⟩ := h.info
  have hr := run_make (P := P) w t e i z h.und hi hzi .i64 .i64 n n (by omega) (by omega) (by have h : ((i.bytes * n : Nat) : Int) ≤ 281474976710656 := (by omega); rwa [Int.natCast_mul] at h) (by omega)
  simp only [Int.toNat_natCast] at hr
  have hl := made_list (k := i.size) hz (by rw [← hz, Array.length_toList]; exact h.cells) n
  refine ⟨_, hr, ?_⟩
  rw [← hl]
end
/-- One cell after another of an element is stored. -/
def StL (b : Nat) : Nat → List Value → World → (World → Prop) → Prop
  | _, [], w, K => K w
  | o, v :: vs, w, K => St w ⟨b, o, none⟩ v fun w' => StL b (o + 1) vs w' K
theorem set_at {pre post : List Value} {c v : Value} : (pre ++ c :: post).set pre.length v = pre ++ v :: post := by
  rw [List.set_append_right _ _ (Nat.le_refl _), Nat.sub_self]
  rfl
theorem Hn.stL {w0 : World} {L : List (Nat × List Value × TypeId)} {b : Nat} {t : TypeId} {i : Nat} {K : World → Prop} : ∀ (vs zs pre post : List Value) (o : Nat) (w : World), Hn w0 w L → L[i]? = some (b, pre ++ (zs ++ post), t) → pre.length = o → zs.length = vs.length →
    (∀ w2, Hn w0 w2 (L.set i (b, pre ++ (vs ++ post), t)) → K w2) → StL b o vs w K
  | [], zs, pre, post, o, w, h, hi, ho, hz, k => by
    have : zs = [] := List.eq_nil_of_length_eq_zero hz
    subst this
    have e : L.set i (b, pre ++ ([] ++ post), t) = L := by
      apply List.ext_getElem?
      intro j
      rw [List.getElem?_set]
      split
      · rename_i hij
        subst hij
        rw [if_pos (List.getElem?_eq_some_iff.1 hi).1, hi]
      · rfl
    exact k w (by rw [e]; exact h)
  | v :: vs, [], pre, post, o, w, h, hi, ho, hz, k => by cases hz
  | v :: vs, z :: zs, pre, post, o, w, h, hi, ho, hz, k => by
    refine h.st i hi (by rw [← ho]; simp) fun w2 h2 => ?_
    have e : (pre ++ (z :: zs ++ post)).set o v = (pre ++ [v]) ++ (zs ++ post) := by
      rw [← ho, List.cons_append, set_at]
      simp
    rw [e] at h2
    have hlt : i < L.length := (List.getElem?_eq_some_iff.1 hi).1
    refine Hn.stL vs zs (pre ++ [v]) post (o + 1) w2 h2 (by rw [List.getElem?_set_self hlt]) (by simp [ho]) (by simpa using hz) fun w3 h3 => k w3 ?_
    rw [List.set_set] at h3
    simpa using h3
end Sh
end Go.Proofs.YtdchpkbpnfoknaaDoor

/- The reference of package matrix answers the same. No condition. -/
namespace Go.Proofs.YtdchpkbpnfoknaaDoor
namespace Mat
open Sh Fix
set_option linter.unusedVariables false
set_option linter.unusedSimpArgs false
set_option maxRecDepth 4000
set_option maxHeartbeats 1000000

theorem row2 {w : World} {b : Nat} {t : TypeId} {x0 x1 : Int} (h : Blk w b #[.int .i64 x0, .int .i64 x1] t) : IRow w ⟨some ⟨b, 0, none⟩, 2, 2⟩ [x0, x1] :=
  IRow.of h rfl fun i hi => by
    have : i = 0 ∨ i = 1 := by simp at hi; omega
    rcases this with rfl | rfl <;> rfl
attribute [local irreducible] Ld St Nw Nn Lt LdS
end Mat
end Go.Proofs.YtdchpkbpnfoknaaDoor

/- What an argument's reading tells: its cells, kind by kind. No condition. -/
namespace Go.Proofs.YtdchpkbpnfoknaaDoor
namespace Sh
set_option linter.unusedVariables false

/-- The cells of a value of type t, read to depth n. -/
def RdC (P : Program) (w : World) : Nat → TypeId → List Value → Prop
  | 0, _, _ => False
  | n + 1, t, cs => match P.underlying t with
    | some (.int k) => ∃ x, cs = [.int k x] ∧ (Lit.int k x).wf = true
    | some .bool => ∃ b, cs = [.bool b]
    | some .string => ∃ s : ByteArray, cs = [.string s] ∧ s.size ≤ maxLen
    | some (.slice e) => ∃ s : Slc, cs = [Slc.v s] ∧ (s = ⟨none, 0, 0⟩ ∨ ∃ a, s.p = some a ∧ s.len ≤ s.cap ∧ s.cap ≤ maxLen ∧
        ∀ i, i < s.len → ∃ cs', cs'.length = P.cellsOf e ∧ (∀ j, j < P.cellsOf e → w.cell? (a.add (i * P.cellsOf e + j)) = cs'[j]?) ∧ RdC P w n e cs')
    | some (.struct fs) => cs.length = P.cellsOf t ∧ ∀ (i : Nat) (f : Field), fs[i]? = some f → RdC P w n f.type ((cs.drop f.offset).take (P.cellsOf f.type))
    | some (.array m e) => cs.length = P.cellsOf t ∧ ∀ i, i < m → RdC P w n e ((cs.drop (i * P.cellsOf e)).take (P.cellsOf e))
    | some (.pointer e) => ∃ p : Option Addr, cs = [.pointer p] ∧ ∀ a, p = some a → ∃ cs', cs'.length = P.cellsOf e ∧ (∀ j, j < P.cellsOf e → w.cell? (a.add j) = cs'[j]?) ∧ RdC P w n e cs'
    | _ => True

theorem list4 {α : Type} {l : List α} (h : l.length = 4) : ∃ a b c d, l = [a, b, c, d] := by
  match l, h with
  | [a, b, c, d], _ => exact ⟨a, b, c, d, rfl⟩
theorem add_add' (a : Addr) (i j : Nat) : (a.add i).add j = a.add (i + j) := by
  unfold Addr.add
  split
  · rename_i h; subst h; simp
  · split
    · rename_i h; subst h; simp_all
    · split
      · omega
      · simp [Nat.add_assoc]
theorem rdC_of {H : Type} {enc : TypeId × Value → H} {P : Program} {w : World} {spare : Nat → Bool} {held : Bool} : ∀ (n : Nat) (t : TypeId) (cs : List Value) (x : DataW H × List MemPlace),
    DataW.trod enc P w 0 spare held n t cs = some x → RdC P w n t cs
  | 0, t, cs, x, h => by simp [DataW.trod] at h
  | n + 1, t, cs, x, h => by
    unfold RdC
    split
    · rename_i k ht
      obtain ⟨y, h1, _, h2⟩ := DataW.trod_int ht h
      exact ⟨y, h1, h2⟩
    · rename_i ht
      obtain ⟨y, h1, _⟩ := DataW.trod_bool ht h
      exact ⟨y, h1⟩
    · rename_i ht
      obtain ⟨y, h1, _, h2⟩ := DataW.trod_string ht h
      exact ⟨y, h1, h2⟩
    · rename_i e ht
      rcases DataW.trod_slice ht h with ⟨h0, _⟩ | ⟨a, len, cap, elems, rest, m, hm, hcs, _, _, hl, hc, hel, hi, _⟩
      · exact ⟨⟨none, 0, 0⟩, h0, .inl rfl⟩
      · cases hm
        refine ⟨⟨some a, len, cap⟩, hcs, .inr ⟨a, rfl, hl, hc, fun i hil => ?_⟩⟩
        have hg : elems[i]? = some (elems[i]'(by rw [hel]; exact hil)) := List.getElem?_eq_getElem _
        have h2 := (hi i hil).trans hg
        obtain ⟨cs', h3, h4⟩ := Option.bind_eq_some_iff.1 h2
        obtain ⟨_, h5, h6⟩ := World.cells?_some h3
        exact ⟨cs', h5, fun j hj => by rw [← add_add']; exact h6 j hj, rdC_of n e cs' _ h4⟩
    · rename_i fs ht
      obtain ⟨xs, m, hm, _, hl, hxl, hf⟩ := DataW.trod_struct ht h
      cases hm
      refine ⟨hl, fun i f hfi => ?_⟩
      have hlt : i < fs.size := (Array.getElem?_eq_some_iff.1 hfi).1
      exact rdC_of n f.type _ _ ((hf i f hfi).trans (List.getElem?_eq_getElem (by rw [hxl]; exact hlt)))
    · rename_i m e ht
      obtain ⟨xs, m', hm, _, hl, hxl, hf⟩ := DataW.trod_array ht h
      cases hm
      exact ⟨hl, fun i hi => rdC_of n e _ _ ((hf i hi).trans (List.getElem?_eq_getElem (by rw [hxl]; exact hi)))⟩
    · rename_i e ht
      rcases DataW.trod_pointer ht h with ⟨h0, _⟩ | ⟨a, cs', y, m, hm, hcs, _, hc, hy⟩
      · exact ⟨none, h0, fun a ha => by cases ha⟩
      · cases hm
        refine ⟨some a, hcs, fun a' ha => ?_⟩
        cases ha
        obtain ⟨_, h5, h6⟩ := World.cells?_some hc
        exact ⟨cs', h5, h6, rdC_of n e cs' y hy⟩
    · trivial
theorem rdC_Trod {H : Type} {enc : TypeId × Value → H} {P : Program} {w : World} {spare : Nat → Bool} {held : Bool} {t : TypeId} {v : Value} {d : DataW H} {ps : List MemPlace}
    (h : DataW.Trod enc P w 0 spare held t v d ps) : ∃ n, RdC P w n t v.cells.toList := by
  obtain ⟨n, hn⟩ := h
  exact ⟨n, rdC_of n t _ _ hn⟩
/-- Offset and type of each field of a struct type. -/
def fieldsAt (P : Program) (t : TypeId) : Option (List (Nat × TypeId)) := match P.underlying t with
  | some (.struct fs) => some (fs.toList.map fun f => (f.offset, f.type))
  | _ => none
section
variable {P : Program} {w : World} {n : Nat} {t : TypeId} {cs : List Value}
theorem rdC_struct {L : List (Nat × TypeId)} (hL : fieldsAt P t = some L) (h : RdC P w n t cs) : cs.length = P.cellsOf t ∧ ∃ m, ∀ (i o : Nat) (u : TypeId), L[i]? = some (o, u) → RdC P w m u ((cs.drop o).take (P.cellsOf u)) := by
  cases n with
  | zero => exact h.elim
  | succ n =>
    unfold RdC at h
    unfold fieldsAt at hL
    split at hL
    · rename_i fs hu
      rw [hu] at h
      cases hL
      refine ⟨h.1, n, fun i o u hi => ?_⟩
      rw [List.getElem?_map] at hi
      obtain ⟨f, h1, h2⟩ := Option.map_eq_some_iff.1 hi
      cases h2
      exact h.2 i f (by simpa using h1)
    · cases hL
theorem rdC_int {k : IntKind} (hu : P.underlying t = some (.int k)) (h : RdC P w n t cs) : ∃ x, cs = [.int k x] ∧ (Lit.int k x).wf = true := by
  cases n with
  | zero => exact h.elim
  | succ n => unfold RdC at h; rw [hu] at h; exact h
theorem rdC_bool (hu : P.underlying t = some .bool) (h : RdC P w n t cs) : ∃ b, cs = [.bool b] := by
  cases n with
  | zero => exact h.elim
  | succ n => unfold RdC at h; rw [hu] at h; exact h
theorem rdC_string (hu : P.underlying t = some .string) (h : RdC P w n t cs) : ∃ s : ByteArray, cs = [.string s] ∧ s.size ≤ maxLen := by
  cases n with
  | zero => exact h.elim
  | succ n => unfold RdC at h; rw [hu] at h; exact h
theorem rdC_slice {e : TypeId} (hu : P.underlying t = some (.slice e)) (h : RdC P w n t cs) : ∃ (s : Slc) (m : Nat), cs = [Slc.v s] ∧ (s = ⟨none, 0, 0⟩ ∨ ∃ a, s.p = some a ∧ s.len ≤ s.cap ∧ s.cap ≤ maxLen ∧
    ∀ i, i < s.len → ∃ cs', cs'.length = P.cellsOf e ∧ (∀ j, j < P.cellsOf e → w.cell? (a.add (i * P.cellsOf e + j)) = cs'[j]?) ∧ RdC P w m e cs') := by
  cases n with
  | zero => exact h.elim
  | succ n =>
    unfold RdC at h
    rw [hu] at h
    obtain ⟨s, h1, h2⟩ := h
    exact ⟨s, n, h1, h2⟩
/-- A slice whose elements are of k cells each: what an element's cells are is told by Q. -/
theorem rdC_elems {e : TypeId} {k : Nat} {α : Type} [Inhabited α] {Q : α → List Value → Prop} (hu : P.underlying t = some (.slice e)) (hk : P.cellsOf e = k) (hQ : ∀ m cs', RdC P w m e cs' → ∃ q, Q q cs') (h : RdC P w n t cs) :
    ∃ (s : Slc) (f : Nat → α), cs = [Slc.v s] ∧ s.len ≤ maxLen ∧ ∀ i, i < s.len → ∃ a cs', s.p = some a ∧ cs'.length = k ∧ (∀ j, j < k → w.cell? (a.add (i * k + j)) = cs'[j]?) ∧ Q (f i) cs' := by
  obtain ⟨s, m, hv, h⟩ := rdC_slice hu h
  rw [hk] at h
  rcases h with rfl | ⟨a, hp, h1, h2, h⟩
  · exact ⟨_, fun _ => default, hv, Nat.zero_le _, fun i hi => by cases hi⟩
  · have h' : ∀ i, ∃ q : α, i < s.len → ∃ cs', cs'.length = k ∧ (∀ j, j < k → w.cell? (a.add (i * k + j)) = cs'[j]?) ∧ Q q cs' := fun i => by
      by_cases hi : i < s.len
      · obtain ⟨cs', hl, hc, hr⟩ := h i hi
        obtain ⟨q, hq⟩ := hQ m cs' hr
        exact ⟨q, fun _ => ⟨cs', hl, hc, hq⟩⟩
      · exact ⟨default, fun hh => absurd hh hi⟩
    refine ⟨s, fun i => Classical.choose (h' i), hv, Nat.le_trans h1 h2, fun i hi => ?_⟩
    obtain ⟨cs', g1, g2, g3⟩ := Classical.choose_spec (h' i) hi
    exact ⟨a, cs', hp, g1, g2, g3⟩
end
theorem rdC_arg_slice {H : Type} {enc : TypeId × Value → H} {P : Program} {W : World} {spare : Nat → Bool} {held : Bool} {t e : TypeId} {v : Value} {d : DataW H} {ps : List MemPlace} {rr : Reach} {b0 : Nat}
    (hu : P.underlying t = some (.slice e)) (h0 : Value.okWide P W rr b0 t v) (h : DataW.Trod enc P W 0 spare held t v d ps) : ∃ n, RdC P W n t [v] := by
  obtain ⟨n, hn⟩ := rdC_Trod h
  obtain ⟨a, len, cap, rfl⟩ := Go.WideShapes.okWide_slice hu h0
  exact ⟨n, hn⟩
theorem cell_lt {w : World} {a : Addr} {v : Value} (h : w.cell? a = some v) : a.block < w.heap.size := by
  unfold World.cell? at h
  rcases Nat.lt_or_ge a.block w.heap.size with h' | h'
  · exact h'
  · rw [Array.getElem?_eq_none h'] at h
    cases h
theorem Ext.cellOf {F : Nat → Prop} {a w : World} (h : Ext F a w) {p : Addr} {v : Value} (hc : a.cell? p = some v) (hn : ¬ F p.block) : w.cell? p = some v := by
  rw [h.cell (cell_lt hc) hn]; exact hc

/-! ### The cells of a struct or an array -/

def isLeaf : TypeDesc → Bool
  | .int _ | .bool | .string | .slice _ | .pointer _ => true
  | _ => false
/-- The type of cell i of a value of type t. -/
def leafAt (P : Program) : Nat → TypeId → Nat → Option TypeId
  | 0, _, _ => none
  | k + 1, t, i => match P.underlying t with
    | some (.struct fs) => match fs.toList.find? (fun f => Nat.ble f.offset i && Nat.blt i (f.offset + P.cellsOf f.type)) with
      | some f => leafAt P k f.type (i - f.offset)
      | none => none
    | some (.array m e) => match Nat.blt (i / P.cellsOf e) m && Nat.blt (i % P.cellsOf e) (P.cellsOf e) with
      | true => leafAt P k e (i % P.cellsOf e)
      | false => none
    | some d => match isLeaf d, i with
      | true, 0 => some t
      | _, _ => none
    | none => none
theorem take_drop_one {α : Type} (l : List α) {o s j : Nat} (hj : j < s) : (((l.drop o).take s).drop j).take 1 = (l.drop (o + j)).take 1 := by
  rw [List.drop_take, List.take_take, List.drop_drop, Nat.min_eq_left (by omega)]
theorem rdC_one {P : Program} {w : World} {n : Nat} {t : TypeId} {cs : List Value} {d : TypeDesc} (hu : P.underlying t = some d) (hd : isLeaf d = true) (h : RdC P w n t cs) : (cs.drop 0).take 1 = cs := by
  cases n with
  | zero => exact h.elim
  | succ n =>
    unfold RdC at h
    rw [hu] at h
    cases d <;> simp only [isLeaf, Bool.false_eq_true] at hd
    all_goals
      obtain ⟨x, h1⟩ := h
      first
        | (subst h1; rfl)
        | (rw [h1.1]; rfl)
theorem rdC_leaf {P : Program} {w : World} : ∀ (k n : Nat) (t : TypeId) (cs : List Value) (i : Nat) (u : TypeId), RdC P w n t cs → leafAt P k t i = some u → ∃ m, RdC P w m u ((cs.drop i).take 1)
  | 0, _, _, _, _, _, _, h => by cases h
  | k + 1, 0, t, cs, i, u, h0, h => h0.elim
  | k + 1, n + 1, t, cs, i, u, h0, h => by
    unfold leafAt at h
    have h1 := h0
    unfold RdC at h1
    split at h
    · rename_i fs hu
      rw [hu] at h1
      split at h
      · rename_i f hf
        obtain ⟨hp, asx, bs, hfs, _⟩ := List.find?_eq_some_iff_append.1 hf
        simp only [Bool.and_eq_true] at hp
        have h2 := Nat.le_of_ble_eq_true hp.1
        have h3 : i < f.offset + P.cellsOf f.type := Nat.le_of_ble_eq_true hp.2
        have hget : fs[asx.length]? = some f := by
          have : fs.toList[asx.length]? = some f := by rw [hfs]; simp
          simpa using this
        obtain ⟨m, hm⟩ := rdC_leaf k n f.type _ (i - f.offset) u (h1.2 _ f hget) h
        rw [take_drop_one _ (by omega), show f.offset + (i - f.offset) = i by omega] at hm
        exact ⟨m, hm⟩
      · cases h
    · rename_i m e hu
      rw [hu] at h1
      split at h
      · rename_i hb
        simp only [Bool.and_eq_true] at hb
        have h2 : i / P.cellsOf e < m := Nat.le_of_ble_eq_true hb.1
        have h3 : i % P.cellsOf e < P.cellsOf e := Nat.le_of_ble_eq_true hb.2
        obtain ⟨m', hm⟩ := rdC_leaf k n e _ (i % P.cellsOf e) u (h1.2 _ h2) h
        rw [take_drop_one _ h3, Nat.div_add_mod' i (P.cellsOf e)] at hm
        exact ⟨m', hm⟩
      · cases h
    · rename_i d _ _ hu
      split at h
      · rename_i hd
        cases h
        exact ⟨n + 1, by rw [rdC_one hu hd h0]; exact h0⟩
      · cases h
    · cases h
theorem take_one {α : Type} {l : List α} {i : Nat} {c : α} (h : l[i]? = some c) : (l.drop i).take 1 = [c] := by
  rw [List.getElem?_eq_some_iff] at h
  obtain ⟨hi, rfl⟩ := h
  rw [List.drop_eq_getElem_cons hi]
  rfl
theorem rdC_len {P : Program} {w : World} {n : Nat} {t : TypeId} {cs : List Value} (ha : isAggD (P.underlying t) = true) (h : RdC P w n t cs) : cs.length = P.cellsOf t := by
  cases n with
  | zero => exact h.elim
  | succ n =>
    unfold RdC at h
    unfold isAggD at ha
    split at ha
    · rename_i fs hu
      rw [hu] at h
      exact h.1
    · rename_i m e hu
      rw [hu] at h
      exact h.1
    · cases ha
section
variable {P : Program} {w : World} {n k i : Nat} {t u : TypeId} {cs : List Value} {c : Value}
theorem leaf_int {q : IntKind} (hl : leafAt P k t i = some u) (hu : P.underlying u = some (.int q)) (h : RdC P w n t cs) (hc : cs[i]? = some c) : ∃ x, c = .int q x ∧ (Lit.int q x).wf = true := by
  obtain ⟨m, hm⟩ := rdC_leaf k n t cs i u h hl
  obtain ⟨x, h1, h2⟩ := rdC_int hu hm
  refine ⟨x, ?_, h2⟩
  rw [take_one hc] at h1
  simpa using h1
theorem leaf_bool (hl : leafAt P k t i = some u) (hu : P.underlying u = some .bool) (h : RdC P w n t cs) (hc : cs[i]? = some c) : ∃ x, c = .bool x := by
  obtain ⟨m, hm⟩ := rdC_leaf k n t cs i u h hl
  obtain ⟨x, h1⟩ := rdC_bool hu hm
  refine ⟨x, ?_⟩
  rw [take_one hc] at h1
  simpa using h1
theorem leaf_string (hl : leafAt P k t i = some u) (hu : P.underlying u = some .string) (h : RdC P w n t cs) (hc : cs[i]? = some c) : ∃ x : ByteArray, c = .string x ∧ x.size ≤ maxLen := by
  obtain ⟨m, hm⟩ := rdC_leaf k n t cs i u h hl
  obtain ⟨x, h1, h2⟩ := rdC_string hu hm
  refine ⟨x, ?_, h2⟩
  rw [take_one hc] at h1
  simpa using h1
/-- A leaf that is a slice. -/
theorem leaf_slice {e : TypeId} (hl : leafAt P k t i = some u) (hu : P.underlying u = some (.slice e)) (h : RdC P w n t cs) (hc : cs[i]? = some c) : ∃ x : Slc, c = Slc.v x ∧ ∃ m, RdC P w m u [c] := by
  obtain ⟨m, hm⟩ := rdC_leaf k n t cs i u h hl
  obtain ⟨x, _, h1, _⟩ := rdC_slice hu hm
  rw [take_one hc] at h1 hm
  exact ⟨x, by simpa using h1, m, hm⟩
end
theorem wf_i64 {n : Int} (h : (Lit.int .i64 n).wf = true) : -9223372036854775808 ≤ n ∧ n ≤ 9223372036854775807 := by
  simpa [Lit.wf, show IntKind.i64.min = -9223372036854775808 by decide, show IntKind.i64.max = 9223372036854775807 by decide] using h
theorem wf_u8 {n : Int} (h : (Lit.int .u8 n).wf = true) : 0 ≤ n ∧ n ≤ 255 := by
  simpa [Lit.wf, show IntKind.u8.min = 0 by decide, show IntKind.u8.max = 255 by decide] using h
theorem wf_u32 {n : Int} (h : (Lit.int .u32 n).wf = true) : 0 ≤ n ∧ n ≤ 4294967295 := by
  simpa [Lit.wf, show IntKind.u32.min = 0 by decide, show IntKind.u32.max = 4294967295 by decide] using h
theorem wf_i32 {n : Int} (h : (Lit.int .i32 n).wf = true) : -2147483648 ≤ n ∧ n ≤ 2147483647 := by
  simpa [Lit.wf, show IntKind.i32.min = -2147483648 by decide, show IntKind.i32.max = 2147483647 by decide] using h
/-- A struct or an array as an argument. -/
theorem rdC_arg_agg {H : Type} {enc : TypeId × Value → H} {P : Program} {W : World} {spare : Nat → Bool} {held : Bool} {t : TypeId} {v : Value} {d : DataW H} {ps : List MemPlace} {rr : Reach} {b0 : Nat}
    (ha : isAggD (P.underlying t) = true) (h0 : Value.okWide P W rr b0 t v) (h : DataW.Trod enc P W 0 spare held t v d ps) : ∃ cs : List Value, v = .agg cs.toArray ∧ cs.length = P.cellsOf t ∧ ∃ n, RdC P W n t cs := by
  obtain ⟨n, hn⟩ := rdC_Trod h
  have hv : ∃ cs : Array Value, v = .agg cs := by
    unfold isAggD at ha
    split at ha
    · rename_i fs hu
      simp only [Value.okWide, hu] at h0
      obtain ⟨cs, h1, _⟩ := h0
      exact ⟨cs, h1⟩
    · rename_i m e hu
      simp only [Value.okWide, hu] at h0
      obtain ⟨cs, h1, _⟩ := h0
      exact ⟨cs, h1⟩
    · cases ha
  obtain ⟨cs, rfl⟩ := hv
  exact ⟨cs.toList, by simp, rdC_len ha hn, n, hn⟩
end Sh
end Go.Proofs.YtdchpkbpnfoknaaDoor

/- The formulas of 10 functions of the program, written by program (gen.py); the kernel checks each. No condition. -/
namespace Go.Proofs.YtdchpkbpnfoknaaDoor
open Sh
set_option linter.unusedVariables false
set_option maxRecDepth 100000

def C63 (n1 : Int) (least2 : Int) (most3 : Int) (w : World) (R : Bool → World → Prop) : Prop :=
  Calls Tryd.prog 63 #[.int .i64 n1, .int .i64 least2, .int .i64 most3] w fun e w' => ∃ r0 : Bool, e = .returned (.bool r0) ∧ R r0 w'
theorem C63.mono {n1 : Int} {least2 : Int} {most3 : Int} {w : World} {R R' : Bool → World → Prop} (h : C63 n1 least2 most3 w R) (hr : ∀ r0 w', R r0 w' → R' r0 w') : C63 n1 least2 most3 w R' :=
  Calls.mono h fun _ _ ⟨r0, he, hR⟩ => ⟨r0, he, hr _ _ hR⟩
def C46 (o1 : Int × Int × Int × ByteArray × Slc × Slc) (w : World) (R : Int → Bool → World → Prop) : Prop :=
  Calls Tryd.prog 46 #[.agg #[.int .i64 (o1.1), .int .i64 (o1.2.1), .int .i64 (o1.2.2.1), .string o1.2.2.2.1, Slc.v o1.2.2.2.2.1, Slc.v o1.2.2.2.2.2]] w fun e w' => ∃ r0 : Int, ∃ r1 : Bool, e = .returned (.tuple #[.int .i64 r0, .bool r1]) ∧ R r0 r1 w'
theorem C46.mono {o1 : Int × Int × Int × ByteArray × Slc × Slc} {w : World} {R R' : Int → Bool → World → Prop} (h : C46 o1 w R) (hr : ∀ r0 r1 w', R r0 r1 w' → R' r0 r1 w') : C46 o1 w R' :=
  Calls.mono h fun _ _ ⟨r0, r1, he, hR⟩ => ⟨r0, r1, he, hr _ _ _ hR⟩
def C28 (units1 : Int) (w : World) (R : (Int × Int × Int × ByteArray × Slc × Slc) → World → Prop) : Prop :=
  Calls Tryd.prog 28 #[.int .i64 units1] w fun e w' => ∃ r0 : Int × Int × Int × ByteArray × Slc × Slc, e = .returned (.agg #[.int .i64 (r0.1), .int .i64 (r0.2.1), .int .i64 (r0.2.2.1), .string r0.2.2.2.1, Slc.v r0.2.2.2.2.1, Slc.v r0.2.2.2.2.2]) ∧ R r0 w'
theorem C28.mono {units1 : Int} {w : World} {R R' : (Int × Int × Int × ByteArray × Slc × Slc) → World → Prop} (h : C28 units1 w R) (hr : ∀ r0 w', R r0 w' → R' r0 w') : C28 units1 w R' :=
  Calls.mono h fun _ _ ⟨r0, he, hR⟩ => ⟨r0, he, hr _ _ hR⟩
def C41 (n1 : Int) (w : World) (R : (Int × Int × Int × ByteArray × Slc × Slc) → World → Prop) : Prop :=
  Calls Tryd.prog 41 #[.int .i64 n1] w fun e w' => ∃ r0 : Int × Int × Int × ByteArray × Slc × Slc, e = .returned (.agg #[.int .i64 (r0.1), .int .i64 (r0.2.1), .int .i64 (r0.2.2.1), .string r0.2.2.2.1, Slc.v r0.2.2.2.2.1, Slc.v r0.2.2.2.2.2]) ∧ R r0 w'
theorem C41.mono {n1 : Int} {w : World} {R R' : (Int × Int × Int × ByteArray × Slc × Slc) → World → Prop} (h : C41 n1 w R) (hr : ∀ r0 w', R r0 w' → R' r0 w') : C41 n1 w R' :=
  Calls.mono h fun _ _ ⟨r0, he, hR⟩ => ⟨r0, he, hr _ _ hR⟩
def C74 (x1 : Int × Int × Int × ByteArray × Slc × Slc) (w : World) (R : (Int × Int × Int × ByteArray × Slc × Slc) → World → Prop) : Prop :=
  Calls Tryd.prog 74 #[.agg #[.int .i64 (x1.1), .int .i64 (x1.2.1), .int .i64 (x1.2.2.1), .string x1.2.2.2.1, Slc.v x1.2.2.2.2.1, Slc.v x1.2.2.2.2.2]] w fun e w' => ∃ r0 : Int × Int × Int × ByteArray × Slc × Slc, e = .returned (.agg #[.int .i64 (r0.1), .int .i64 (r0.2.1), .int .i64 (r0.2.2.1), .string r0.2.2.2.1, Slc.v r0.2.2.2.2.1, Slc.v r0.2.2.2.2.2]) ∧ R r0 w'
theorem C74.mono {x1 : Int × Int × Int × ByteArray × Slc × Slc} {w : World} {R R' : (Int × Int × Int × ByteArray × Slc × Slc) → World → Prop} (h : C74 x1 w R) (hr : ∀ r0 w', R r0 w' → R' r0 w') : C74 x1 w R' :=
  Calls.mono h fun _ _ ⟨r0, he, hR⟩ => ⟨r0, he, hr _ _ hR⟩
def C81 (s1 : Slc) (w : World) (R : Slc → World → Prop) : Prop :=
  Calls Tryd.prog 81 #[Slc.v s1] w fun e w' => ∃ r0 : Slc, e = .returned (Slc.v r0) ∧ R r0 w'
theorem C81.mono {s1 : Slc} {w : World} {R R' : Slc → World → Prop} (h : C81 s1 w R) (hr : ∀ r0 w', R r0 w' → R' r0 w') : C81 s1 w R' :=
  Calls.mono h fun _ _ ⟨r0, he, hR⟩ => ⟨r0, he, hr _ _ hR⟩
def C73 (o1 : Int × Int × Int × ByteArray × Slc × Slc) (how2 : Value) (w : World) (R : (Int × Int × Int × ByteArray × Slc × Slc) → World → Prop) : Prop :=
  Calls Tryd.prog 73 #[.agg #[.int .i64 (o1.1), .int .i64 (o1.2.1), .int .i64 (o1.2.2.1), .string o1.2.2.2.1, Slc.v o1.2.2.2.2.1, Slc.v o1.2.2.2.2.2], how2] w fun e w' => ∃ r0 : Int × Int × Int × ByteArray × Slc × Slc, e = .returned (.agg #[.int .i64 (r0.1), .int .i64 (r0.2.1), .int .i64 (r0.2.2.1), .string r0.2.2.2.1, Slc.v r0.2.2.2.2.1, Slc.v r0.2.2.2.2.2]) ∧ R r0 w'
theorem C73.mono {o1 : Int × Int × Int × ByteArray × Slc × Slc} {how2 : Value} {w : World} {R R' : (Int × Int × Int × ByteArray × Slc × Slc) → World → Prop} (h : C73 o1 how2 w R) (hr : ∀ r0 w', R r0 w' → R' r0 w') : C73 o1 how2 w R' :=
  Calls.mono h fun _ _ ⟨r0, he, hR⟩ => ⟨r0, he, hr _ _ hR⟩
def C60 (o1 : Int × Int × Int × ByteArray × Slc × Slc) (w : World) (R : (Int × Int × Int × ByteArray × Slc × Slc) → World → Prop) : Prop :=
  Calls Tryd.prog 60 #[.agg #[.int .i64 (o1.1), .int .i64 (o1.2.1), .int .i64 (o1.2.2.1), .string o1.2.2.2.1, Slc.v o1.2.2.2.2.1, Slc.v o1.2.2.2.2.2]] w fun e w' => ∃ r0 : Int × Int × Int × ByteArray × Slc × Slc, e = .returned (.agg #[.int .i64 (r0.1), .int .i64 (r0.2.1), .int .i64 (r0.2.2.1), .string r0.2.2.2.1, Slc.v r0.2.2.2.2.1, Slc.v r0.2.2.2.2.2]) ∧ R r0 w'
theorem C60.mono {o1 : Int × Int × Int × ByteArray × Slc × Slc} {w : World} {R R' : (Int × Int × Int × ByteArray × Slc × Slc) → World → Prop} (h : C60 o1 w R) (hr : ∀ r0 w', R r0 w' → R' r0 w') : C60 o1 w R' :=
  Calls.mono h fun _ _ ⟨r0, he, hR⟩ => ⟨r0, he, hr _ _ hR⟩
def C42 (kids1 : Slc) (w : World) (R : (Int × Int × Int × ByteArray × Slc × Slc) → World → Prop) : Prop :=
  Calls Tryd.prog 42 #[Slc.v kids1] w fun e w' => ∃ r0 : Int × Int × Int × ByteArray × Slc × Slc, e = .returned (.agg #[.int .i64 (r0.1), .int .i64 (r0.2.1), .int .i64 (r0.2.2.1), .string r0.2.2.2.1, Slc.v r0.2.2.2.2.1, Slc.v r0.2.2.2.2.2]) ∧ R r0 w'
theorem C42.mono {kids1 : Slc} {w : World} {R R' : (Int × Int × Int × ByteArray × Slc × Slc) → World → Prop} (h : C42 kids1 w R) (hr : ∀ r0 w', R r0 w' → R' r0 w') : C42 kids1 w R' :=
  Calls.mono h fun _ _ ⟨r0, he, hR⟩ => ⟨r0, he, hr _ _ hR⟩
def C18 (m1 : Int × Int × Int × Int × Int × Int) (w : World) (R : (Int × Int × Int × ByteArray × Slc × Slc) → World → Prop) : Prop :=
  Calls Tryd.prog 18 #[.agg #[.int .i64 (m1.1), .int .i64 (m1.2.1), .int .i64 (m1.2.2.1), .int .i64 (m1.2.2.2.1), .int .i64 (m1.2.2.2.2.1), .int .i64 (m1.2.2.2.2.2)]] w fun e w' => ∃ r0 : Int × Int × Int × ByteArray × Slc × Slc, e = .returned (.agg #[.int .i64 (r0.1), .int .i64 (r0.2.1), .int .i64 (r0.2.2.1), .string r0.2.2.2.1, Slc.v r0.2.2.2.2.1, Slc.v r0.2.2.2.2.2]) ∧ R r0 w'
theorem C18.mono {m1 : Int × Int × Int × Int × Int × Int} {w : World} {R R' : (Int × Int × Int × ByteArray × Slc × Slc) → World → Prop} (h : C18 m1 w R) (hr : ∀ r0 w', R r0 w' → R' r0 w') : C18 m1 w R' :=
  Calls.mono h fun _ _ ⟨r0, he, hR⟩ => ⟨r0, he, hr _ _ hR⟩

/-- foliant/value.within[int64] -/
def S63 (n1 : Int) (least2 : Int) (most3 : Int) (w : World) (R : Bool → World → Prop) : Prop :=
  Br (decide (least2 ≤ n1)) (R (decide (n1 ≤ most3)) w) (R false w)
def pl63 : Plan := (.seq (.reg .seq) (.seq (.reg .seq) .leaf))
set_option maxRecDepth 100000 in
theorem T63 (n1 : Int) (least2 : Int) (most3 : Int) (w : World) (R : Bool → World → Prop) (h : S63 n1 least2 most3 w R) : C63 n1 least2 most3 w R := by
  have e : fnT Tryd.prog ⟨FF, MAY, (fun _ _ => False)⟩ pl63 Tryd.f63 [.int .i64 n1, .int .i64 least2, .int .i64 most3] w [(.one .bool)] (fun s w => R s w) = S63 n1 least2 most3 w R := by kernel_rfl
  exact (fn_calls okF okM Tryd.func63 (by kernel_rfl) (by kernel_rfl) (e.mpr h)).mono fun _ _ ⟨s, he, hR⟩ => ⟨s, he, hR⟩

/-- foliant/value.Number -/
def S46 (o1 : Int × Int × Int × ByteArray × Slc × Slc) (w : World) (R : Int → Bool → World → Prop) : Prop :=
  Nw w (.cells #[.int .i64 (o1.1), .int .i64 (o1.2.1), .int .i64 (o1.2.2.1), .string o1.2.2.2.1, Slc.v o1.2.2.2.2.1, Slc.v o1.2.2.2.2.2] 64) fun vw2 =>
  Ld vw2 ((⟨w.heap.size, 0, none⟩ : Addr).add 1) (Value.int .i64) fun (x3 : Int) =>
  Ld vw2 (⟨w.heap.size, 0, none⟩ : Addr) (Value.int .i64) fun (x7 : Int) =>
  Br (x7 == 2) (C63 x3 (-107374) 107374 vw2 fun r8 vw9 =>
      Br (!r8) (R 0 false vw9) (C63 (IntKind.i64.wrap (x3 * 10000)) (-1073741824) 1073741824 vw9 fun r10 vw11 =>
          Br (!r10) (R 0 false vw11) (R (IntKind.i64.wrap (x3 * 10000)) true vw11))) (Br (x7 == 3) (C63 x3 (-1073741824) 1073741824 vw2 fun r12 vw13 =>
        Br (!r12) (R 0 false vw13) (R x3 true vw13)) (R 0 false vw2))
def pl46 : Plan := (.seq (.reg .seq) (.seq (.reg .seq) (.seq (.seq (.reg .seq) (.block (.seq (.reg .seq) (.cond (.seq (.seq (.reg .seq) (.cond (.seq (.reg .seq) .leaf) .leaf)) (.reg .seq)) (.seq (.reg .seq) (.cond .leaf (.seq (.reg .seq) .leaf))))))) (.seq (.seq (.reg .seq) (.cond (.seq (.reg .seq) .leaf) .leaf)) (.seq (.reg .seq) .leaf)))))
set_option maxRecDepth 100000 in
theorem T46 (o1 : Int × Int × Int × ByteArray × Slc × Slc) (w : World) (R : Int → Bool → World → Prop) (h : S46 o1 w R) : C46 (o1.1, o1.2.1, o1.2.2.1, o1.2.2.2.1, o1.2.2.2.2.1, o1.2.2.2.2.2) w R := by
  have e : fnT Tryd.prog ⟨FF, MAY, (fun _ _ => False)⟩ pl46 Tryd.f46 [.agg #[.int .i64 (o1.1), .int .i64 (o1.2.1), .int .i64 (o1.2.2.1), .string o1.2.2.2.1, Slc.v o1.2.2.2.2.1, Slc.v o1.2.2.2.2.2]] w [(.one (.int .i64)), (.one .bool)] (fun s w => R s.1 s.2 w) = S46 o1 w R := by kernel_rfl
  exact (fn_calls okF okM Tryd.func46 (by kernel_rfl) (by kernel_rfl) (e.mpr h)).mono fun _ _ ⟨s, he, hR⟩ => ⟨s.1, s.2, he, hR⟩

/-- foliant/value.Real -/
def S28 (units1 : Int) (w : World) (R : (Int × Int × Int × ByteArray × Slc × Slc) → World → Prop) : Prop :=
  Nw w (.cells #[.int .i64 0, .int .i64 0, .int .i64 0, .string ((⟨#[]⟩ : ByteArray)), Slc.v ((⟨none, 0, 0⟩ : Slc)), Slc.v ((⟨none, 0, 0⟩ : Slc))] 64) fun vw2 =>
  St vw2 (⟨w.heap.size, 0, none⟩ : Addr) (.int .i64 3) fun vw3 =>
  St vw3 ((⟨w.heap.size, 0, none⟩ : Addr).add 1) (.int .i64 units1) fun vw4 =>
  St vw4 ((⟨w.heap.size, 0, none⟩ : Addr).add 2) (.int .i64 0) fun vw5 =>
  St vw5 ((⟨w.heap.size, 0, none⟩ : Addr).add 3) (.string ((⟨#[]⟩ : ByteArray))) fun vw6 =>
  St vw6 ((⟨w.heap.size, 0, none⟩ : Addr).add 4) (Slc.v ((⟨none, 0, 0⟩ : Slc))) fun vw7 =>
  St vw7 ((⟨w.heap.size, 0, none⟩ : Addr).add 5) (Slc.v ((⟨none, 0, 0⟩ : Slc))) fun vw8 =>
  Ld vw8 (⟨w.heap.size, 0, none⟩ : Addr) (Value.int .i64) fun (x9 : Int) =>
  Ld vw8 ((⟨w.heap.size, 0, none⟩ : Addr).add 1) (Value.int .i64) fun (x10 : Int) =>
  Ld vw8 ((⟨w.heap.size, 0, none⟩ : Addr).add 2) (Value.int .i64) fun (x11 : Int) =>
  Ld vw8 ((⟨w.heap.size, 0, none⟩ : Addr).add 3) Value.string fun (x12 : ByteArray) =>
  Ld vw8 ((⟨w.heap.size, 0, none⟩ : Addr).add 4) Slc.v fun (x13 : Slc) =>
  Ld vw8 ((⟨w.heap.size, 0, none⟩ : Addr).add 5) Slc.v fun (x14 : Slc) =>
  R (x9, x10, x11, x12, x13, x14) vw8
def pl28 : Plan := (.seq (.reg .seq) (.seq (.reg .seq) .leaf))
set_option maxRecDepth 100000 in
theorem T28 (units1 : Int) (w : World) (R : (Int × Int × Int × ByteArray × Slc × Slc) → World → Prop) (h : S28 units1 w R) : C28 units1 w R := by
  have e : fnT Tryd.prog ⟨FF, MAY, (fun _ _ => False)⟩ pl28 Tryd.f28 [.int .i64 units1] w [(.agg [(.int .i64), (.int .i64), (.int .i64), .str, .slc, .slc])] (fun s w => R s w) = S28 units1 w R := by kernel_rfl
  exact (fn_calls okF okM Tryd.func28 (by kernel_rfl) (by kernel_rfl) (e.mpr h)).mono fun _ _ ⟨s, he, hR⟩ => ⟨s, he, hR⟩

/-- foliant/value.Int -/
def S41 (n1 : Int) (w : World) (R : (Int × Int × Int × ByteArray × Slc × Slc) → World → Prop) : Prop :=
  Nw w (.cells #[.int .i64 0, .int .i64 0, .int .i64 0, .string ((⟨#[]⟩ : ByteArray)), Slc.v ((⟨none, 0, 0⟩ : Slc)), Slc.v ((⟨none, 0, 0⟩ : Slc))] 64) fun vw2 =>
  St vw2 (⟨w.heap.size, 0, none⟩ : Addr) (.int .i64 2) fun vw3 =>
  St vw3 ((⟨w.heap.size, 0, none⟩ : Addr).add 1) (.int .i64 n1) fun vw4 =>
  St vw4 ((⟨w.heap.size, 0, none⟩ : Addr).add 2) (.int .i64 0) fun vw5 =>
  St vw5 ((⟨w.heap.size, 0, none⟩ : Addr).add 3) (.string ((⟨#[]⟩ : ByteArray))) fun vw6 =>
  St vw6 ((⟨w.heap.size, 0, none⟩ : Addr).add 4) (Slc.v ((⟨none, 0, 0⟩ : Slc))) fun vw7 =>
  St vw7 ((⟨w.heap.size, 0, none⟩ : Addr).add 5) (Slc.v ((⟨none, 0, 0⟩ : Slc))) fun vw8 =>
  Ld vw8 (⟨w.heap.size, 0, none⟩ : Addr) (Value.int .i64) fun (x9 : Int) =>
  Ld vw8 ((⟨w.heap.size, 0, none⟩ : Addr).add 1) (Value.int .i64) fun (x10 : Int) =>
  Ld vw8 ((⟨w.heap.size, 0, none⟩ : Addr).add 2) (Value.int .i64) fun (x11 : Int) =>
  Ld vw8 ((⟨w.heap.size, 0, none⟩ : Addr).add 3) Value.string fun (x12 : ByteArray) =>
  Ld vw8 ((⟨w.heap.size, 0, none⟩ : Addr).add 4) Slc.v fun (x13 : Slc) =>
  Ld vw8 ((⟨w.heap.size, 0, none⟩ : Addr).add 5) Slc.v fun (x14 : Slc) =>
  R (x9, x10, x11, x12, x13, x14) vw8
def pl41 : Plan := (.seq (.reg .seq) (.seq (.reg .seq) .leaf))
set_option maxRecDepth 100000 in
theorem T41 (n1 : Int) (w : World) (R : (Int × Int × Int × ByteArray × Slc × Slc) → World → Prop) (h : S41 n1 w R) : C41 n1 w R := by
  have e : fnT Tryd.prog ⟨FF, MAY, (fun _ _ => False)⟩ pl41 Tryd.f41 [.int .i64 n1] w [(.agg [(.int .i64), (.int .i64), (.int .i64), .str, .slc, .slc])] (fun s w => R s w) = S41 n1 w R := by kernel_rfl
  exact (fn_calls okF okM Tryd.func41 (by kernel_rfl) (by kernel_rfl) (e.mpr h)).mono fun _ _ ⟨s, he, hR⟩ => ⟨s, he, hR⟩

/-- foliant/value.Clone$1 -/
def S74 (x1 : Int × Int × Int × ByteArray × Slc × Slc) (w : World) (R : (Int × Int × Int × ByteArray × Slc × Slc) → World → Prop) : Prop :=
  Nw w (.cells #[.int .i64 (x1.1), .int .i64 (x1.2.1), .int .i64 (x1.2.2.1), .string x1.2.2.2.1, Slc.v x1.2.2.2.2.1, Slc.v x1.2.2.2.2.2] 64) fun vw2 =>
  Nw vw2 (.cells #[.int .i64 0, .int .i64 0, .int .i64 0, .string ((⟨#[]⟩ : ByteArray)), Slc.v ((⟨none, 0, 0⟩ : Slc)), Slc.v ((⟨none, 0, 0⟩ : Slc))] 64) fun vw3 =>
  Ld vw3 (⟨w.heap.size, 0, none⟩ : Addr) (Value.int .i64) fun (x4 : Int) =>
  Ld vw3 ((⟨w.heap.size, 0, none⟩ : Addr).add 1) (Value.int .i64) fun (x5 : Int) =>
  Ld vw3 ((⟨w.heap.size, 0, none⟩ : Addr).add 2) (Value.int .i64) fun (x6 : Int) =>
  Ld vw3 ((⟨w.heap.size, 0, none⟩ : Addr).add 3) Value.string fun (x7 : ByteArray) =>
  Ld vw3 ((⟨w.heap.size, 0, none⟩ : Addr).add 4) Slc.v fun (x8 : Slc) =>
  Ld vw3 ((⟨w.heap.size, 0, none⟩ : Addr).add 5) Slc.v fun (x9 : Slc) =>
  St vw3 (⟨vw2.heap.size, 0, none⟩ : Addr) (.int .i64 x4) fun vw10 =>
  St vw10 ((⟨vw2.heap.size, 0, none⟩ : Addr).add 1) (.int .i64 x5) fun vw11 =>
  St vw11 ((⟨vw2.heap.size, 0, none⟩ : Addr).add 2) (.int .i64 x6) fun vw12 =>
  St vw12 ((⟨vw2.heap.size, 0, none⟩ : Addr).add 3) (.string x7) fun vw13 =>
  St vw13 ((⟨vw2.heap.size, 0, none⟩ : Addr).add 4) (Slc.v x8) fun vw14 =>
  St vw14 ((⟨vw2.heap.size, 0, none⟩ : Addr).add 5) (Slc.v x9) fun vw15 =>
  Ld vw15 (⟨vw2.heap.size, 0, none⟩ : Addr) (Value.int .i64) fun (x16 : Int) =>
  Ld vw15 ((⟨vw2.heap.size, 0, none⟩ : Addr).add 1) (Value.int .i64) fun (x17 : Int) =>
  Ld vw15 ((⟨vw2.heap.size, 0, none⟩ : Addr).add 2) (Value.int .i64) fun (x18 : Int) =>
  Ld vw15 ((⟨vw2.heap.size, 0, none⟩ : Addr).add 3) Value.string fun (x19 : ByteArray) =>
  Ld vw15 ((⟨vw2.heap.size, 0, none⟩ : Addr).add 4) Slc.v fun (x20 : Slc) =>
  Ld vw15 ((⟨vw2.heap.size, 0, none⟩ : Addr).add 5) Slc.v fun (x21 : Slc) =>
  R (x16, x17, x18, x19, x20, x21) vw15
def pl74 : Plan := (.seq (.reg .seq) (.seq (.reg .seq) .leaf))
set_option maxRecDepth 100000 in
theorem T74 (x1 : Int × Int × Int × ByteArray × Slc × Slc) (w : World) (R : (Int × Int × Int × ByteArray × Slc × Slc) → World → Prop) (h : S74 x1 w R) : C74 (x1.1, x1.2.1, x1.2.2.1, x1.2.2.2.1, x1.2.2.2.2.1, x1.2.2.2.2.2) w R := by
  have e : fnT Tryd.prog ⟨FF, MAY, (fun _ _ => False)⟩ pl74 Tryd.f74 [.agg #[.int .i64 (x1.1), .int .i64 (x1.2.1), .int .i64 (x1.2.2.1), .string x1.2.2.2.1, Slc.v x1.2.2.2.2.1, Slc.v x1.2.2.2.2.2]] w [(.agg [(.int .i64), (.int .i64), (.int .i64), .str, .slc, .slc])] (fun s w => R s w) = S74 x1 w R := by kernel_rfl
  exact (fn_calls okF okM Tryd.func74 (by kernel_rfl) (by kernel_rfl) (e.mpr h)).mono fun _ _ ⟨s, he, hR⟩ => ⟨s, he, hR⟩

/-- slices.Clone[[]string,string] -/
def S81 (s1 : Slc) (w : World) (R : Slc → World → Prop) : Prop :=
  Br s1.p.isNone (R (⟨none, 0, 0⟩ : Slc) w) (Nw w (.cells #[] 9) fun vw2 =>
    Rn Tryd.prog (Builtin.append_ #[62, 62] 62 #[Slc.v ((⟨some ⟨w.heap.size, 0, none⟩, 0, 0⟩ : Slc)), Slc.v s1]) vw2 Slc.v fun (x3 : Slc) vw4 =>
    R x3 vw4)
def pl81 : Plan := (.seq (.reg .seq) (.seq (.seq (.reg .seq) (.cond (.seq (.reg .seq) .leaf) .leaf)) (.seq (.reg .seq) .leaf)))
set_option maxRecDepth 100000 in
theorem T81 (s1 : Slc) (w : World) (R : Slc → World → Prop) (h : S81 s1 w R) : C81 s1 w R := by
  have e : fnT Tryd.prog ⟨FF, MAY, (fun _ _ => False)⟩ pl81 Tryd.f81 [Slc.v s1] w [(.one .slc)] (fun s w => R s w) = S81 s1 w R := by kernel_rfl
  exact (fn_calls okF okM Tryd.func81 (by kernel_rfl) (by kernel_rfl) (e.mpr h)).mono fun _ _ ⟨s, he, hR⟩ => ⟨s, he, hR⟩

def S73_F74L1 (w : World) (vw3 : World) (x25 : Slc) (x27 : Slc) (R : (Int × Int × Int × ByteArray × Slc × Slc) → World → Prop) (I30 : Int → World → Prop) (s28 : Int) (vw29 : World) : Prop :=
  Br (decide (s28 < ((x27.len : Nat) : Int))) (0 ≤ s28 ∧ s28 < (x27.len : Nat) ∧ Nn x27.p fun a31 =>
    Ld vw29 (a31.add ((s28).toNat * 6)) (Value.int .i64) fun (x32 : Int) =>
    Ld vw29 ((a31.add ((s28).toNat * 6)).add 1) (Value.int .i64) fun (x33 : Int) =>
    Ld vw29 ((a31.add ((s28).toNat * 6)).add 2) (Value.int .i64) fun (x34 : Int) =>
    Ld vw29 ((a31.add ((s28).toNat * 6)).add 3) Value.string fun (x35 : ByteArray) =>
    Ld vw29 ((a31.add ((s28).toNat * 6)).add 4) Slc.v fun (x36 : Slc) =>
    Ld vw29 ((a31.add ((s28).toNat * 6)).add 5) Slc.v fun (x37 : Slc) =>
    Nw vw29 (.cells #[.int .i64 0, .int .i64 0, .int .i64 0, .string ((⟨#[]⟩ : ByteArray)), Slc.v ((⟨none, 0, 0⟩ : Slc)), Slc.v ((⟨none, 0, 0⟩ : Slc))] 64) fun vw38 =>
    St vw38 (⟨vw29.heap.size, 0, none⟩ : Addr) (.int .i64 x32) fun vw39 =>
    St vw39 ((⟨vw29.heap.size, 0, none⟩ : Addr).add 1) (.int .i64 x33) fun vw40 =>
    St vw40 ((⟨vw29.heap.size, 0, none⟩ : Addr).add 2) (.int .i64 x34) fun vw41 =>
    St vw41 ((⟨vw29.heap.size, 0, none⟩ : Addr).add 3) (.string x35) fun vw42 =>
    St vw42 ((⟨vw29.heap.size, 0, none⟩ : Addr).add 4) (Slc.v x36) fun vw43 =>
    St vw43 ((⟨vw29.heap.size, 0, none⟩ : Addr).add 5) (Slc.v x37) fun vw44 =>
    Ld vw44 (⟨vw29.heap.size, 0, none⟩ : Addr) (Value.int .i64) fun (x45 : Int) =>
    Ld vw44 ((⟨vw29.heap.size, 0, none⟩ : Addr).add 1) (Value.int .i64) fun (x46 : Int) =>
    Ld vw44 ((⟨vw29.heap.size, 0, none⟩ : Addr).add 2) (Value.int .i64) fun (x47 : Int) =>
    Ld vw44 ((⟨vw29.heap.size, 0, none⟩ : Addr).add 3) Value.string fun (x48 : ByteArray) =>
    Ld vw44 ((⟨vw29.heap.size, 0, none⟩ : Addr).add 4) Slc.v fun (x49 : Slc) =>
    Ld vw44 ((⟨vw29.heap.size, 0, none⟩ : Addr).add 5) Slc.v fun (x50 : Slc) =>
    C73 (x45, x46, x47, x48, x49, x50) (.func (.func 74) #[] #[]) vw44 fun r51 vw52 =>
      0 ≤ s28 ∧ s28 < (x25.len : Nat) ∧ Nn x25.p fun a53 =>
      St vw52 (a53.add ((s28).toNat * 6)) (.int .i64 (r51.1)) fun vw54 =>
      St vw54 ((a53.add ((s28).toNat * 6)).add 1) (.int .i64 (r51.2.1)) fun vw55 =>
      St vw55 ((a53.add ((s28).toNat * 6)).add 2) (.int .i64 (r51.2.2.1)) fun vw56 =>
      St vw56 ((a53.add ((s28).toNat * 6)).add 3) (.string r51.2.2.2.1) fun vw57 =>
      St vw57 ((a53.add ((s28).toNat * 6)).add 4) (Slc.v r51.2.2.2.2.1) fun vw58 =>
      St vw58 ((a53.add ((s28).toNat * 6)).add 5) (Slc.v r51.2.2.2.2.2) fun vw59 =>
      I30 (IntKind.i64.wrap (s28 + 1)) vw59) (St vw29 ((⟨w.heap.size, 0, none⟩ : Addr).add 5) (Slc.v x25) fun vw60 =>
    Ld vw60 (⟨w.heap.size, 0, none⟩ : Addr) (Value.int .i64) fun (x61 : Int) =>
    Ld vw60 ((⟨w.heap.size, 0, none⟩ : Addr).add 1) (Value.int .i64) fun (x62 : Int) =>
    Ld vw60 ((⟨w.heap.size, 0, none⟩ : Addr).add 2) (Value.int .i64) fun (x63 : Int) =>
    Ld vw60 ((⟨w.heap.size, 0, none⟩ : Addr).add 3) Value.string fun (x64 : ByteArray) =>
    Ld vw60 ((⟨w.heap.size, 0, none⟩ : Addr).add 4) Slc.v fun (x65 : Slc) =>
    Ld vw60 ((⟨w.heap.size, 0, none⟩ : Addr).add 5) Slc.v fun (x66 : Slc) =>
    St vw60 (⟨vw3.heap.size, 0, none⟩ : Addr) (.int .i64 x61) fun vw67 =>
    St vw67 ((⟨vw3.heap.size, 0, none⟩ : Addr).add 1) (.int .i64 x62) fun vw68 =>
    St vw68 ((⟨vw3.heap.size, 0, none⟩ : Addr).add 2) (.int .i64 x63) fun vw69 =>
    St vw69 ((⟨vw3.heap.size, 0, none⟩ : Addr).add 3) (.string x64) fun vw70 =>
    St vw70 ((⟨vw3.heap.size, 0, none⟩ : Addr).add 4) (Slc.v x65) fun vw71 =>
    St vw71 ((⟨vw3.heap.size, 0, none⟩ : Addr).add 5) (Slc.v x66) fun vw72 =>
    Ld vw72 (⟨vw3.heap.size, 0, none⟩ : Addr) (Value.int .i64) fun (x73 : Int) =>
    Ld vw72 ((⟨vw3.heap.size, 0, none⟩ : Addr).add 1) (Value.int .i64) fun (x74 : Int) =>
    Ld vw72 ((⟨vw3.heap.size, 0, none⟩ : Addr).add 2) (Value.int .i64) fun (x75 : Int) =>
    Ld vw72 ((⟨vw3.heap.size, 0, none⟩ : Addr).add 3) Value.string fun (x76 : ByteArray) =>
    Ld vw72 ((⟨vw3.heap.size, 0, none⟩ : Addr).add 4) Slc.v fun (x77 : Slc) =>
    Ld vw72 ((⟨vw3.heap.size, 0, none⟩ : Addr).add 5) Slc.v fun (x78 : Slc) =>
    R (x73, x74, x75, x76, x77, x78) vw72)
/-- foliant/value.changed -/
def S73_F74 (o1 : Int × Int × Int × ByteArray × Slc × Slc) (w : World) (R : (Int × Int × Int × ByteArray × Slc × Slc) → World → Prop) : Prop :=
  Nw w (.cells #[.int .i64 (o1.1), .int .i64 (o1.2.1), .int .i64 (o1.2.2.1), .string o1.2.2.2.1, Slc.v o1.2.2.2.2.1, Slc.v o1.2.2.2.2.2] 64) fun vw3 =>
  Nw vw3 (.cells #[.int .i64 0, .int .i64 0, .int .i64 0, .string ((⟨#[]⟩ : ByteArray)), Slc.v ((⟨none, 0, 0⟩ : Slc)), Slc.v ((⟨none, 0, 0⟩ : Slc))] 64) fun vw4 =>
  Ld vw4 (⟨w.heap.size, 0, none⟩ : Addr) (Value.int .i64) fun (x5 : Int) =>
  Ld vw4 ((⟨w.heap.size, 0, none⟩ : Addr).add 1) (Value.int .i64) fun (x6 : Int) =>
  Ld vw4 ((⟨w.heap.size, 0, none⟩ : Addr).add 2) (Value.int .i64) fun (x7 : Int) =>
  Ld vw4 ((⟨w.heap.size, 0, none⟩ : Addr).add 3) Value.string fun (x8 : ByteArray) =>
  Ld vw4 ((⟨w.heap.size, 0, none⟩ : Addr).add 4) Slc.v fun (x9 : Slc) =>
  Ld vw4 ((⟨w.heap.size, 0, none⟩ : Addr).add 5) Slc.v fun (x10 : Slc) =>
  C74 (x5, x6, x7, x8, x9, x10) vw4 fun r11 vw12 =>
    St vw12 (⟨w.heap.size, 0, none⟩ : Addr) (.int .i64 (r11.1)) fun vw13 =>
    St vw13 ((⟨w.heap.size, 0, none⟩ : Addr).add 1) (.int .i64 (r11.2.1)) fun vw14 =>
    St vw14 ((⟨w.heap.size, 0, none⟩ : Addr).add 2) (.int .i64 (r11.2.2.1)) fun vw15 =>
    St vw15 ((⟨w.heap.size, 0, none⟩ : Addr).add 3) (.string r11.2.2.2.1) fun vw16 =>
    St vw16 ((⟨w.heap.size, 0, none⟩ : Addr).add 4) (Slc.v r11.2.2.2.2.1) fun vw17 =>
    St vw17 ((⟨w.heap.size, 0, none⟩ : Addr).add 5) (Slc.v r11.2.2.2.2.2) fun vw18 =>
    Ld vw18 ((⟨w.heap.size, 0, none⟩ : Addr).add 4) Slc.v fun (x19 : Slc) =>
    C81 x19 vw18 fun r20 vw21 =>
      St vw21 ((⟨w.heap.size, 0, none⟩ : Addr).add 4) (Slc.v r20) fun vw22 =>
      Ld vw22 ((⟨w.heap.size, 0, none⟩ : Addr).add 5) Slc.v fun (x23 : Slc) =>
      Br (!(x23.p.isNone)) (Ld vw22 ((⟨w.heap.size, 0, none⟩ : Addr).add 5) Slc.v fun (x24 : Slc) =>
        Rn Tryd.prog (Instr.makeSlice 28 (.int .i64 ((x24.len : Nat) : Int)) (.int .i64 ((x24.len : Nat) : Int))) vw22 Slc.v fun (x25 : Slc) vw26 =>
        Ld vw26 ((⟨w.heap.size, 0, none⟩ : Addr).add 5) Slc.v fun (x27 : Slc) =>
        Lp (σ := Int) (S73_F74L1 w vw3 x25 x27 R) 0 vw26) (Ld vw22 (⟨w.heap.size, 0, none⟩ : Addr) (Value.int .i64) fun (x79 : Int) =>
        Ld vw22 ((⟨w.heap.size, 0, none⟩ : Addr).add 1) (Value.int .i64) fun (x80 : Int) =>
        Ld vw22 ((⟨w.heap.size, 0, none⟩ : Addr).add 2) (Value.int .i64) fun (x81 : Int) =>
        Ld vw22 ((⟨w.heap.size, 0, none⟩ : Addr).add 3) Value.string fun (x82 : ByteArray) =>
        Ld vw22 ((⟨w.heap.size, 0, none⟩ : Addr).add 4) Slc.v fun (x83 : Slc) =>
        Ld vw22 ((⟨w.heap.size, 0, none⟩ : Addr).add 5) Slc.v fun (x84 : Slc) =>
        St vw22 (⟨vw3.heap.size, 0, none⟩ : Addr) (.int .i64 x79) fun vw85 =>
        St vw85 ((⟨vw3.heap.size, 0, none⟩ : Addr).add 1) (.int .i64 x80) fun vw86 =>
        St vw86 ((⟨vw3.heap.size, 0, none⟩ : Addr).add 2) (.int .i64 x81) fun vw87 =>
        St vw87 ((⟨vw3.heap.size, 0, none⟩ : Addr).add 3) (.string x82) fun vw88 =>
        St vw88 ((⟨vw3.heap.size, 0, none⟩ : Addr).add 4) (Slc.v x83) fun vw89 =>
        St vw89 ((⟨vw3.heap.size, 0, none⟩ : Addr).add 5) (Slc.v x84) fun vw90 =>
        Ld vw90 (⟨vw3.heap.size, 0, none⟩ : Addr) (Value.int .i64) fun (x91 : Int) =>
        Ld vw90 ((⟨vw3.heap.size, 0, none⟩ : Addr).add 1) (Value.int .i64) fun (x92 : Int) =>
        Ld vw90 ((⟨vw3.heap.size, 0, none⟩ : Addr).add 2) (Value.int .i64) fun (x93 : Int) =>
        Ld vw90 ((⟨vw3.heap.size, 0, none⟩ : Addr).add 3) Value.string fun (x94 : ByteArray) =>
        Ld vw90 ((⟨vw3.heap.size, 0, none⟩ : Addr).add 4) Slc.v fun (x95 : Slc) =>
        Ld vw90 ((⟨vw3.heap.size, 0, none⟩ : Addr).add 5) Slc.v fun (x96 : Slc) =>
        R (x91, x92, x93, x94, x95, x96) vw90)
def pl73_F74 : Plan := (.seq (.reg .seq) (.seq (.reg .seq) (.seq (.reg .seq) (.seq (.seq (.reg .seq) (.cond (.seq (.reg .seq) (.seq (.seq (.reg .seq) (.block (.loop [(25, (.one (.int .i64)))] [1, 2, 4, 5, 23, 24] (.seq (.reg .seq) (.seq (.cond .leaf .leaf) (.seq (.block (.seq (.reg .seq) (.reg .seq))) (.reg .seq))))))) (.reg .seq))) .leaf)) (.seq (.reg .seq) .leaf)))))
set_option maxRecDepth 100000 in
theorem T73_F74 (o1 : Int × Int × Int × ByteArray × Slc × Slc) (w : World) (R : (Int × Int × Int × ByteArray × Slc × Slc) → World → Prop) (h : S73_F74 o1 w R) : C73 (o1.1, o1.2.1, o1.2.2.1, o1.2.2.2.1, o1.2.2.2.2.1, o1.2.2.2.2.2) (.func (.func 74) #[] #[]) w R := by
  have e : fnT Tryd.prog ⟨FF, MAY, (fun _ _ => False)⟩ pl73_F74 Tryd.f73 [.agg #[.int .i64 (o1.1), .int .i64 (o1.2.1), .int .i64 (o1.2.2.1), .string o1.2.2.2.1, Slc.v o1.2.2.2.2.1, Slc.v o1.2.2.2.2.2], .func (.func 74) #[] #[]] w [(.agg [(.int .i64), (.int .i64), (.int .i64), .str, .slc, .slc])] (fun s w => R s w) = S73_F74 o1 w R := by kernel_rfl
  exact (fn_calls okF okM Tryd.func73 (by kernel_rfl) (by kernel_rfl) (e.mpr h)).mono fun _ _ ⟨s, he, hR⟩ => ⟨s, he, hR⟩

/-- foliant/value.Clone -/
def S60 (o1 : Int × Int × Int × ByteArray × Slc × Slc) (w : World) (R : (Int × Int × Int × ByteArray × Slc × Slc) → World → Prop) : Prop :=
  Nw w (.cells #[.int .i64 (o1.1), .int .i64 (o1.2.1), .int .i64 (o1.2.2.1), .string o1.2.2.2.1, Slc.v o1.2.2.2.2.1, Slc.v o1.2.2.2.2.2] 64) fun vw2 =>
  Nw vw2 (.cells #[.int .i64 0, .int .i64 0, .int .i64 0, .string ((⟨#[]⟩ : ByteArray)), Slc.v ((⟨none, 0, 0⟩ : Slc)), Slc.v ((⟨none, 0, 0⟩ : Slc))] 64) fun vw3 =>
  Ld vw3 (⟨w.heap.size, 0, none⟩ : Addr) (Value.int .i64) fun (x4 : Int) =>
  Ld vw3 ((⟨w.heap.size, 0, none⟩ : Addr).add 1) (Value.int .i64) fun (x5 : Int) =>
  Ld vw3 ((⟨w.heap.size, 0, none⟩ : Addr).add 2) (Value.int .i64) fun (x6 : Int) =>
  Ld vw3 ((⟨w.heap.size, 0, none⟩ : Addr).add 3) Value.string fun (x7 : ByteArray) =>
  Ld vw3 ((⟨w.heap.size, 0, none⟩ : Addr).add 4) Slc.v fun (x8 : Slc) =>
  Ld vw3 ((⟨w.heap.size, 0, none⟩ : Addr).add 5) Slc.v fun (x9 : Slc) =>
  C73 (x4, x5, x6, x7, x8, x9) (.func (.func 74) #[] #[]) vw3 fun r10 vw11 =>
    St vw11 (⟨vw2.heap.size, 0, none⟩ : Addr) (.int .i64 (r10.1)) fun vw12 =>
    St vw12 ((⟨vw2.heap.size, 0, none⟩ : Addr).add 1) (.int .i64 (r10.2.1)) fun vw13 =>
    St vw13 ((⟨vw2.heap.size, 0, none⟩ : Addr).add 2) (.int .i64 (r10.2.2.1)) fun vw14 =>
    St vw14 ((⟨vw2.heap.size, 0, none⟩ : Addr).add 3) (.string r10.2.2.2.1) fun vw15 =>
    St vw15 ((⟨vw2.heap.size, 0, none⟩ : Addr).add 4) (Slc.v r10.2.2.2.2.1) fun vw16 =>
    St vw16 ((⟨vw2.heap.size, 0, none⟩ : Addr).add 5) (Slc.v r10.2.2.2.2.2) fun vw17 =>
    Ld vw17 (⟨vw2.heap.size, 0, none⟩ : Addr) (Value.int .i64) fun (x18 : Int) =>
    Ld vw17 ((⟨vw2.heap.size, 0, none⟩ : Addr).add 1) (Value.int .i64) fun (x19 : Int) =>
    Ld vw17 ((⟨vw2.heap.size, 0, none⟩ : Addr).add 2) (Value.int .i64) fun (x20 : Int) =>
    Ld vw17 ((⟨vw2.heap.size, 0, none⟩ : Addr).add 3) Value.string fun (x21 : ByteArray) =>
    Ld vw17 ((⟨vw2.heap.size, 0, none⟩ : Addr).add 4) Slc.v fun (x22 : Slc) =>
    Ld vw17 ((⟨vw2.heap.size, 0, none⟩ : Addr).add 5) Slc.v fun (x23 : Slc) =>
    R (x18, x19, x20, x21, x22, x23) vw17
def pl60 : Plan := (.seq (.reg .seq) (.seq (.reg .seq) .leaf))
set_option maxRecDepth 100000 in
theorem T60 (o1 : Int × Int × Int × ByteArray × Slc × Slc) (w : World) (R : (Int × Int × Int × ByteArray × Slc × Slc) → World → Prop) (h : S60 o1 w R) : C60 (o1.1, o1.2.1, o1.2.2.1, o1.2.2.2.1, o1.2.2.2.2.1, o1.2.2.2.2.2) w R := by
  have e : fnT Tryd.prog ⟨FF, MAY, (fun _ _ => False)⟩ pl60 Tryd.f60 [.agg #[.int .i64 (o1.1), .int .i64 (o1.2.1), .int .i64 (o1.2.2.1), .string o1.2.2.2.1, Slc.v o1.2.2.2.2.1, Slc.v o1.2.2.2.2.2]] w [(.agg [(.int .i64), (.int .i64), (.int .i64), .str, .slc, .slc])] (fun s w => R s w) = S60 o1 w R := by kernel_rfl
  exact (fn_calls okF okM Tryd.func60 (by kernel_rfl) (by kernel_rfl) (e.mpr h)).mono fun _ _ ⟨s, he, hR⟩ => ⟨s, he, hR⟩

/-- foliant/value.Array -/
def S42 (kids1 : Slc) (w : World) (R : (Int × Int × Int × ByteArray × Slc × Slc) → World → Prop) : Prop :=
  Nw w (.cells #[.int .i64 0, .int .i64 0, .int .i64 0, .string ((⟨#[]⟩ : ByteArray)), Slc.v ((⟨none, 0, 0⟩ : Slc)), Slc.v ((⟨none, 0, 0⟩ : Slc))] 64) fun vw2 =>
  C60 (6, 0, 0, (⟨#[]⟩ : ByteArray), (⟨none, 0, 0⟩ : Slc), kids1) vw2 fun r3 vw4 =>
    St vw4 (⟨w.heap.size, 0, none⟩ : Addr) (.int .i64 (r3.1)) fun vw5 =>
    St vw5 ((⟨w.heap.size, 0, none⟩ : Addr).add 1) (.int .i64 (r3.2.1)) fun vw6 =>
    St vw6 ((⟨w.heap.size, 0, none⟩ : Addr).add 2) (.int .i64 (r3.2.2.1)) fun vw7 =>
    St vw7 ((⟨w.heap.size, 0, none⟩ : Addr).add 3) (.string r3.2.2.2.1) fun vw8 =>
    St vw8 ((⟨w.heap.size, 0, none⟩ : Addr).add 4) (Slc.v r3.2.2.2.2.1) fun vw9 =>
    St vw9 ((⟨w.heap.size, 0, none⟩ : Addr).add 5) (Slc.v r3.2.2.2.2.2) fun vw10 =>
    Ld vw10 (⟨w.heap.size, 0, none⟩ : Addr) (Value.int .i64) fun (x11 : Int) =>
    Ld vw10 ((⟨w.heap.size, 0, none⟩ : Addr).add 1) (Value.int .i64) fun (x12 : Int) =>
    Ld vw10 ((⟨w.heap.size, 0, none⟩ : Addr).add 2) (Value.int .i64) fun (x13 : Int) =>
    Ld vw10 ((⟨w.heap.size, 0, none⟩ : Addr).add 3) Value.string fun (x14 : ByteArray) =>
    Ld vw10 ((⟨w.heap.size, 0, none⟩ : Addr).add 4) Slc.v fun (x15 : Slc) =>
    Ld vw10 ((⟨w.heap.size, 0, none⟩ : Addr).add 5) Slc.v fun (x16 : Slc) =>
    R (x11, x12, x13, x14, x15, x16) vw10
def pl42 : Plan := (.seq (.reg .seq) (.seq (.reg .seq) .leaf))
set_option maxRecDepth 100000 in
theorem T42 (kids1 : Slc) (w : World) (R : (Int × Int × Int × ByteArray × Slc × Slc) → World → Prop) (h : S42 kids1 w R) : C42 kids1 w R := by
  have e : fnT Tryd.prog ⟨FF, MAY, (fun _ _ => False)⟩ pl42 Tryd.f42 [Slc.v kids1] w [(.agg [(.int .i64), (.int .i64), (.int .i64), .str, .slc, .slc])] (fun s w => R s w) = S42 kids1 w R := by kernel_rfl
  exact (fn_calls okF okM Tryd.func42 (by kernel_rfl) (by kernel_rfl) (e.mpr h)).mono fun _ _ ⟨s, he, hR⟩ => ⟨s, he, hR⟩

def S18L1 (vw2 : World) (r4 : Option Addr × Option Addr × Option Addr × Option Addr × Option Addr × Option Addr) (R : (Int × Int × Int × ByteArray × Slc × Slc) → World → Prop) (I8 : (Slc × Int) → World → Prop) (s6 : Slc × Int) (vw7 : World) : Prop :=
  Br (decide (s6.2 < 6)) (0 ≤ s6.2 ∧ s6.2 < (6 : Nat) ∧ ∃ x9 : Option Addr, (#[.pointer r4.1, .pointer r4.2.1, .pointer r4.2.2.1, .pointer r4.2.2.2.1, .pointer r4.2.2.2.2.1, .pointer r4.2.2.2.2.2] : Array Value)[(s6.2).toNat * 1]? = some (.pointer x9) ∧ Nn x9 fun a10 =>
    Ld vw7 a10 (Value.int .i64) fun (x11 : Int) =>
    Br ((Int.tmod x11 10000) == 0) (Nn x9 fun a12 =>
      Ld vw7 a12 (Value.int .i64) fun (x13 : Int) =>
      C41 (IntKind.i64.wrap (Int.tdiv x13 10000)) vw7 fun r14 vw15 =>
        Nw vw15 (.cells #[.int .i64 (r14.1), .int .i64 (r14.2.1), .int .i64 (r14.2.2.1), .string r14.2.2.2.1, Slc.v r14.2.2.2.2.1, Slc.v r14.2.2.2.2.2] 64) fun vw16 =>
        Rn Tryd.prog (Builtin.append_ #[28, 28] 28 #[Slc.v s6.1, Slc.v ((⟨some ⟨vw15.heap.size, 0, none⟩, 1, 1⟩ : Slc))]) vw16 Slc.v fun (x17 : Slc) vw18 =>
        I8 (x17, IntKind.i64.wrap (s6.2 + 1)) vw18) (Nn x9 fun a19 =>
      Ld vw7 a19 (Value.int .i64) fun (x20 : Int) =>
      C28 x20 vw7 fun r21 vw22 =>
        Nw vw22 (.cells #[.int .i64 (r21.1), .int .i64 (r21.2.1), .int .i64 (r21.2.2.1), .string r21.2.2.2.1, Slc.v r21.2.2.2.2.1, Slc.v r21.2.2.2.2.2] 64) fun vw23 =>
        Rn Tryd.prog (Builtin.append_ #[28, 28] 28 #[Slc.v s6.1, Slc.v ((⟨some ⟨vw22.heap.size, 0, none⟩, 1, 1⟩ : Slc))]) vw23 Slc.v fun (x24 : Slc) vw25 =>
        I8 (x24, IntKind.i64.wrap (s6.2 + 1)) vw25)) (C42 s6.1 vw7 fun r26 vw27 =>
      St vw27 (⟨vw2.heap.size, 0, none⟩ : Addr) (.int .i64 (r26.1)) fun vw28 =>
      St vw28 ((⟨vw2.heap.size, 0, none⟩ : Addr).add 1) (.int .i64 (r26.2.1)) fun vw29 =>
      St vw29 ((⟨vw2.heap.size, 0, none⟩ : Addr).add 2) (.int .i64 (r26.2.2.1)) fun vw30 =>
      St vw30 ((⟨vw2.heap.size, 0, none⟩ : Addr).add 3) (.string r26.2.2.2.1) fun vw31 =>
      St vw31 ((⟨vw2.heap.size, 0, none⟩ : Addr).add 4) (Slc.v r26.2.2.2.2.1) fun vw32 =>
      St vw32 ((⟨vw2.heap.size, 0, none⟩ : Addr).add 5) (Slc.v r26.2.2.2.2.2) fun vw33 =>
      Ld vw33 (⟨vw2.heap.size, 0, none⟩ : Addr) (Value.int .i64) fun (x34 : Int) =>
      Ld vw33 ((⟨vw2.heap.size, 0, none⟩ : Addr).add 1) (Value.int .i64) fun (x35 : Int) =>
      Ld vw33 ((⟨vw2.heap.size, 0, none⟩ : Addr).add 2) (Value.int .i64) fun (x36 : Int) =>
      Ld vw33 ((⟨vw2.heap.size, 0, none⟩ : Addr).add 3) Value.string fun (x37 : ByteArray) =>
      Ld vw33 ((⟨vw2.heap.size, 0, none⟩ : Addr).add 4) Slc.v fun (x38 : Slc) =>
      Ld vw33 ((⟨vw2.heap.size, 0, none⟩ : Addr).add 5) Slc.v fun (x39 : Slc) =>
      R (x34, x35, x36, x37, x38, x39) vw33)
/-- foliant/matrix.Object -/
def S18 (m1 : Int × Int × Int × Int × Int × Int) (w : World) (R : (Int × Int × Int × ByteArray × Slc × Slc) → World → Prop) : Prop :=
  Nw w (.cells #[.int .i64 (m1.1), .int .i64 (m1.2.1), .int .i64 (m1.2.2.1), .int .i64 (m1.2.2.2.1), .int .i64 (m1.2.2.2.2.1), .int .i64 (m1.2.2.2.2.2)] 23) fun vw2 =>
  Nw vw2 (.cells #[.int .i64 0, .int .i64 0, .int .i64 0, .string ((⟨#[]⟩ : ByteArray)), Slc.v ((⟨none, 0, 0⟩ : Slc)), Slc.v ((⟨none, 0, 0⟩ : Slc))] 64) fun vw3 =>
  C30 (some (⟨w.heap.size, 0, none⟩ : Addr)) vw3 fun r4 vw5 =>
    Lp (σ := Slc × Int) (S18L1 vw2 r4 R) ((⟨none, 0, 0⟩ : Slc), 0) vw5
def pl18 : Plan := (.seq (.reg .seq) (.seq (.reg .seq) (.seq (.seq (.reg .seq) (.block (.loop [(3, (.one .slc)), (7, (.one (.int .i64)))] [2, 6] (.seq (.reg .seq) (.seq (.cond .leaf .leaf) (.seq (.block (.seq (.reg .seq) (.seq (.reg .seq) (.cond (.reg .seq) (.reg .seq))))) (.reg .seq))))))) (.seq (.reg .seq) .leaf))))
set_option maxRecDepth 100000 in
theorem T18 (m1 : Int × Int × Int × Int × Int × Int) (w : World) (R : (Int × Int × Int × ByteArray × Slc × Slc) → World → Prop) (h : S18 m1 w R) : C18 (m1.1, m1.2.1, m1.2.2.1, m1.2.2.2.1, m1.2.2.2.2.1, m1.2.2.2.2.2) w R := by
  have e : fnT Tryd.prog ⟨FF, MAY, (fun _ _ => False)⟩ pl18 Tryd.f18 [.agg #[.int .i64 (m1.1), .int .i64 (m1.2.1), .int .i64 (m1.2.2.1), .int .i64 (m1.2.2.2.1), .int .i64 (m1.2.2.2.2.1), .int .i64 (m1.2.2.2.2.2)]] w [(.agg [(.int .i64), (.int .i64), (.int .i64), .str, .slc, .slc])] (fun s w => R s w) = S18 m1 w R := by kernel_rfl
  exact (fn_calls okF okM Tryd.func18 (by kernel_rfl) (by kernel_rfl) (e.mpr h)).mono fun _ _ ⟨s, he, hR⟩ => ⟨s, he, hR⟩

end Go.Proofs.YtdchpkbpnfoknaaDoor
