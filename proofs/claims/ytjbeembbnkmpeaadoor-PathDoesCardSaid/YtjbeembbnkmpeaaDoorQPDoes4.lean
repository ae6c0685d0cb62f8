/- The formulas of 21 functions of the program, written by program (gen.py); the kernel checks each. No condition. -/
import Derived.Test.YtjbeembbnkmpeaaDoorQPDoes2
import Derived.Test.YtjbeembbnkmpeaaDoorQPDoes3
namespace Go.Proofs.YtjbeembbnkmpeaaDoor
open Sh
set_option linter.unusedVariables false
set_option maxRecDepth 100000

def C22 (w : World) (R : Option Addr → World → Prop) : Prop :=
  Calls Tryd.prog 22 #[] w fun e w' => ∃ r0 : Option Addr, e = .returned (.pointer r0) ∧ R r0 w'
theorem C22.mono {w : World} {R R' : Option Addr → World → Prop} (h : C22 w R) (hr : ∀ r0 w', R r0 w' → R' r0 w') : C22 w R' :=
  Calls.mono h fun _ _ ⟨r0, he, hR⟩ => ⟨r0, he, hr _ _ hR⟩
def CD76 (c1 : Addr) (u : Option Value) (w : World) (R : World → Prop) : Prop := CallD Tryd.prog 76 #[.pointer (some c1)] u w R
theorem CD76.mono {c1 : Addr} {u : Option Value} {w : World} {R R' : World → Prop} (h : CD76 c1 u w R) (hr : ∀ w', R w' → R' w') : CD76 c1 u w R' :=
  CallsD.mono h fun _ _ _ ⟨h1, h2, h3⟩ => ⟨h1, h2, hr _ h3⟩
def C77 (holds1 : Bool) (why2 : Int) (w : World) (R : World → Prop) (PR : Value → World → Prop) : Prop :=
  Calls Tryd.prog 77 #[.bool holds1, .int .i64 why2] w fun e w' => (e = .returned (.tuple #[]) ∧ R w') ∨ ∃ v, e = .panicked (onePanic v) ∧ PR v w'
theorem C77.mono {holds1 : Bool} {why2 : Int} {w : World} {R R' : World → Prop} {PR PR' : Value → World → Prop} (h : C77 holds1 why2 w R PR) (hr : ∀ w', R w' → R' w') (hp : ∀ v w', PR v w' → PR' v w') : C77 holds1 why2 w R' PR' :=
  Calls.mono h fun _ _ he => he.elim (fun ⟨he, hR⟩ => .inl ⟨he, hr _ hR⟩) fun ⟨v, he, hP⟩ => .inr ⟨v, he, hp _ _ hP⟩
def C78 (name1 : ByteArray) (w : World) (R : Bool → World → Prop) : Prop :=
  Calls Tryd.prog 78 #[.string name1] w fun e w' => ∃ r0 : Bool, e = .returned (.bool r0) ∧ R r0 w'
theorem C78.mono {name1 : ByteArray} {w : World} {R R' : Bool → World → Prop} (h : C78 name1 w R) (hr : ∀ r0 w', R r0 w' → R' r0 w') : C78 name1 w R' :=
  Calls.mono h fun _ _ ⟨r0, he, hR⟩ => ⟨r0, he, hr _ _ hR⟩
def C79 (x1 : ByteArray × Slc × ByteArray) (why2 : Int) (w : World) (R : (ByteArray × Slc × ByteArray) → World → Prop) (PR : Value → World → Prop) : Prop :=
  Calls Tryd.prog 79 #[.agg #[.string x1.1, Slc.v x1.2.1, .string x1.2.2], .int .i64 why2] w fun e w' => (∃ r0 : ByteArray × Slc × ByteArray, e = .returned (.agg #[.string r0.1, Slc.v r0.2.1, .string r0.2.2]) ∧ R r0 w') ∨ ∃ v, e = .panicked (onePanic v) ∧ PR v w'
theorem C79.mono {x1 : ByteArray × Slc × ByteArray} {why2 : Int} {w : World} {R R' : (ByteArray × Slc × ByteArray) → World → Prop} {PR PR' : Value → World → Prop} (h : C79 x1 why2 w R PR) (hr : ∀ r0 w', R r0 w' → R' r0 w') (hp : ∀ v w', PR v w' → PR' v w') : C79 x1 why2 w R' PR' :=
  Calls.mono h fun _ _ he => he.elim (fun ⟨r0, he, hR⟩ => .inl ⟨r0, he, hr _ _ hR⟩) fun ⟨v, he, hP⟩ => .inr ⟨v, he, hp _ _ hP⟩
def C81 (x1 : Option Addr) (w : World) (R : (Int × Int) → World → Prop) : Prop :=
  Calls Tryd.prog 81 #[.pointer x1] w fun e w' => ∃ r0 : Int × Int, e = .returned (.agg #[.int .i64 (r0.1), .int .i64 (r0.2)]) ∧ R r0 w'
theorem C81.mono {x1 : Option Addr} {w : World} {R R' : (Int × Int) → World → Prop} (h : C81 x1 w R) (hr : ∀ r0 w', R r0 w' → R' r0 w') : C81 x1 w R' :=
  Calls.mono h fun _ _ ⟨r0, he, hR⟩ => ⟨r0, he, hr _ _ hR⟩
def C82 (x1 : Slc) (why2 : Int) (w : World) (R : Slc → World → Prop) (PR : Value → World → Prop) : Prop :=
  Calls Tryd.prog 82 #[Slc.v x1, .int .i64 why2] w fun e w' => (∃ r0 : Slc, e = .returned (Slc.v r0) ∧ R r0 w') ∨ ∃ v, e = .panicked (onePanic v) ∧ PR v w'
theorem C82.mono {x1 : Slc} {why2 : Int} {w : World} {R R' : Slc → World → Prop} {PR PR' : Value → World → Prop} (h : C82 x1 why2 w R PR) (hr : ∀ r0 w', R r0 w' → R' r0 w') (hp : ∀ v w', PR v w' → PR' v w') : C82 x1 why2 w R' PR' :=
  Calls.mono h fun _ _ he => he.elim (fun ⟨r0, he, hR⟩ => .inl ⟨r0, he, hr _ _ hR⟩) fun ⟨v, he, hP⟩ => .inr ⟨v, he, hp _ _ hP⟩
def C83 (o1 : ByteArray × Slc × ByteArray) (w : World) (R : Slc → Int → World → Prop) : Prop :=
  Calls Tryd.prog 83 #[.agg #[.string o1.1, Slc.v o1.2.1, .string o1.2.2]] w fun e w' => ∃ r0 : Slc, ∃ r1 : Int, e = .returned (.tuple #[Slc.v r0, .int .i64 r1]) ∧ R r0 r1 w'
theorem C83.mono {o1 : ByteArray × Slc × ByteArray} {w : World} {R R' : Slc → Int → World → Prop} (h : C83 o1 w R) (hr : ∀ r0 r1 w', R r0 r1 w' → R' r0 r1 w') : C83 o1 w R' :=
  Calls.mono h fun _ _ ⟨r0, r1, he, hR⟩ => ⟨r0, r1, he, hr _ _ _ hR⟩
def C144 (p1 : Option Addr) (s2 : Int × Int × Int × Int × Int × Int × Int) (w : World) (R : World → Prop) : Prop :=
  Calls Tryd.prog 144 #[.pointer p1, .agg #[.int .i64 (s2.1), .int .i64 (s2.2.1), .int .i64 (s2.2.2.1), .int .i64 (s2.2.2.2.1), .int .i64 (s2.2.2.2.2.1), .int .i64 (s2.2.2.2.2.2.1), .int .i64 (s2.2.2.2.2.2.2)]] w fun e w' => e = .returned (.tuple #[]) ∧ R w'
theorem C144.mono {p1 : Option Addr} {s2 : Int × Int × Int × Int × Int × Int × Int} {w : World} {R R' : World → Prop} (h : C144 p1 s2 w R) (hr : ∀ w', R w' → R' w') : C144 p1 s2 w R' :=
  Calls.mono h fun _ _ ⟨he, hR⟩ => ⟨he, hr _ hR⟩
def C205 (x1 : Int × Int) (why2 : Int) (w : World) (R : (Int × Int) → World → Prop) (PR : Value → World → Prop) : Prop :=
  Calls Tryd.prog 205 #[.agg #[.int .i64 (x1.1), .int .i64 (x1.2)], .int .i64 why2] w fun e w' => (∃ r0 : Int × Int, e = .returned (.agg #[.int .i64 (r0.1), .int .i64 (r0.2)]) ∧ R r0 w') ∨ ∃ v, e = .panicked (onePanic v) ∧ PR v w'
theorem C205.mono {x1 : Int × Int} {why2 : Int} {w : World} {R R' : (Int × Int) → World → Prop} {PR PR' : Value → World → Prop} (h : C205 x1 why2 w R PR) (hr : ∀ r0 w', R r0 w' → R' r0 w') (hp : ∀ v w', PR v w' → PR' v w') : C205 x1 why2 w R' PR' :=
  Calls.mono h fun _ _ he => he.elim (fun ⟨r0, he, hR⟩ => .inl ⟨r0, he, hr _ _ hR⟩) fun ⟨v, he, hP⟩ => .inr ⟨v, he, hp _ _ hP⟩
def C192 (p1 : Option Addr) (x2 : Int) (y3 : Int) (w : World) (R : (Int × Int) → World → Prop) (PR : Value → World → Prop) : Prop :=
  Calls Tryd.prog 192 #[.pointer p1, .int .i64 x2, .int .i64 y3] w fun e w' => (∃ r0 : Int × Int, e = .returned (.agg #[.int .i64 (r0.1), .int .i64 (r0.2)]) ∧ R r0 w') ∨ ∃ v, e = .panicked (onePanic v) ∧ PR v w'
theorem C192.mono {p1 : Option Addr} {x2 : Int} {y3 : Int} {w : World} {R R' : (Int × Int) → World → Prop} {PR PR' : Value → World → Prop} (h : C192 p1 x2 y3 w R PR) (hr : ∀ r0 w', R r0 w' → R' r0 w') (hp : ∀ v w', PR v w' → PR' v w') : C192 p1 x2 y3 w R' PR' :=
  Calls.mono h fun _ _ he => he.elim (fun ⟨r0, he, hR⟩ => .inl ⟨r0, he, hr _ _ hR⟩) fun ⟨v, he, hP⟩ => .inr ⟨v, he, hp _ _ hP⟩
def C145 (p1 : Option Addr) (w : World) (R : (Int × Int) → World → Prop) (PR : Value → World → Prop) : Prop :=
  Calls Tryd.prog 145 #[.pointer p1] w fun e w' => (∃ r0 : Int × Int, e = .returned (.agg #[.int .i64 (r0.1), .int .i64 (r0.2)]) ∧ R r0 w') ∨ ∃ v, e = .panicked (onePanic v) ∧ PR v w'
theorem C145.mono {p1 : Option Addr} {w : World} {R R' : (Int × Int) → World → Prop} {PR PR' : Value → World → Prop} (h : C145 p1 w R PR) (hr : ∀ r0 w', R r0 w' → R' r0 w') (hp : ∀ v w', PR v w' → PR' v w') : C145 p1 w R' PR' :=
  Calls.mono h fun _ _ he => he.elim (fun ⟨r0, he, hR⟩ => .inl ⟨r0, he, hr _ _ hR⟩) fun ⟨v, he, hP⟩ => .inr ⟨v, he, hp _ _ hP⟩
def C146 (p1 : Option Addr) (a2 : Int × Int) (b3 : Int × Int) (c4 : Int × Int) (w : World) (R : World → Prop) : Prop :=
  Calls Tryd.prog 146 #[.pointer p1, .agg #[.int .i64 (a2.1), .int .i64 (a2.2)], .agg #[.int .i64 (b3.1), .int .i64 (b3.2)], .agg #[.int .i64 (c4.1), .int .i64 (c4.2)]] w fun e w' => e = .returned (.tuple #[]) ∧ R w'
theorem C146.mono {p1 : Option Addr} {a2 : Int × Int} {b3 : Int × Int} {c4 : Int × Int} {w : World} {R R' : World → Prop} (h : C146 p1 a2 b3 c4 w R) (hr : ∀ w', R w' → R' w') : C146 p1 a2 b3 c4 w R' :=
  Calls.mono h fun _ _ ⟨he, hR⟩ => ⟨he, hr _ hR⟩
def C193 (x1 : Int) (why2 : Int) (w : World) (R : Int → World → Prop) (PR : Value → World → Prop) : Prop :=
  Calls Tryd.prog 193 #[.int .i64 x1, .int .i64 why2] w fun e w' => (∃ r0 : Int, e = .returned (.int .i64 r0) ∧ R r0 w') ∨ ∃ v, e = .panicked (onePanic v) ∧ PR v w'
theorem C193.mono {x1 : Int} {why2 : Int} {w : World} {R R' : Int → World → Prop} {PR PR' : Value → World → Prop} (h : C193 x1 why2 w R PR) (hr : ∀ r0 w', R r0 w' → R' r0 w') (hp : ∀ v w', PR v w' → PR' v w') : C193 x1 why2 w R' PR' :=
  Calls.mono h fun _ _ he => he.elim (fun ⟨r0, he, hR⟩ => .inl ⟨r0, he, hr _ _ hR⟩) fun ⟨v, he, hP⟩ => .inr ⟨v, he, hp _ _ hP⟩
def C147 (p1 : Option Addr) (w : World) (R : World → Prop) (PR : Value → World → Prop) : Prop :=
  Calls Tryd.prog 147 #[.pointer p1] w fun e w' => (e = .returned (.tuple #[]) ∧ R w') ∨ ∃ v, e = .panicked (onePanic v) ∧ PR v w'
theorem C147.mono {p1 : Option Addr} {w : World} {R R' : World → Prop} {PR PR' : Value → World → Prop} (h : C147 p1 w R PR) (hr : ∀ w', R w' → R' w') (hp : ∀ v w', PR v w' → PR' v w') : C147 p1 w R' PR' :=
  Calls.mono h fun _ _ he => he.elim (fun ⟨he, hR⟩ => .inl ⟨he, hr _ hR⟩) fun ⟨v, he, hP⟩ => .inr ⟨v, he, hp _ _ hP⟩
def C84 (p1 : Option Addr) (name2 : ByteArray) (w : World) (R : World → Prop) (PR : Value → World → Prop) : Prop :=
  Calls Tryd.prog 84 #[.pointer p1, .string name2] w fun e w' => (e = .returned (.tuple #[]) ∧ R w') ∨ ∃ v, e = .panicked (onePanic v) ∧ PR v w'
theorem C84.mono {p1 : Option Addr} {name2 : ByteArray} {w : World} {R R' : World → Prop} {PR PR' : Value → World → Prop} (h : C84 p1 name2 w R PR) (hr : ∀ w', R w' → R' w') (hp : ∀ v w', PR v w' → PR' v w') : C84 p1 name2 w R' PR' :=
  Calls.mono h fun _ _ he => he.elim (fun ⟨he, hR⟩ => .inl ⟨he, hr _ hR⟩) fun ⟨v, he, hP⟩ => .inr ⟨v, he, hp _ _ hP⟩
def C23 (x1 : Option Addr) (o2 : ByteArray × Slc × ByteArray) (m3 : Int × Int × Int × Int × Int × Int) (w : World) (R : Int → World → Prop) : Prop :=
  Calls Tryd.prog 23 #[.pointer x1, .agg #[.string o2.1, Slc.v o2.2.1, .string o2.2.2], .agg #[.int .i64 (m3.1), .int .i64 (m3.2.1), .int .i64 (m3.2.2.1), .int .i64 (m3.2.2.2.1), .int .i64 (m3.2.2.2.2.1), .int .i64 (m3.2.2.2.2.2)]] w fun e w' => ∃ r0 : Int, e = .returned (.int .i64 r0) ∧ R r0 w'
theorem C23.mono {x1 : Option Addr} {o2 : ByteArray × Slc × ByteArray} {m3 : Int × Int × Int × Int × Int × Int} {w : World} {R R' : Int → World → Prop} (h : C23 x1 o2 m3 w R) (hr : ∀ r0 w', R r0 w' → R' r0 w') : C23 x1 o2 m3 w R' :=
  Calls.mono h fun _ _ ⟨r0, he, hR⟩ => ⟨r0, he, hr _ _ hR⟩
def C86 (s1 : Slc) (w : World) (R : Slc → World → Prop) : Prop :=
  Calls Tryd.prog 86 #[Slc.v s1] w fun e w' => ∃ r0 : Slc, e = .returned (Slc.v r0) ∧ R r0 w'
theorem C86.mono {s1 : Slc} {w : World} {R R' : Slc → World → Prop} (h : C86 s1 w R) (hr : ∀ r0 w', R r0 w' → R' r0 w') : C86 s1 w R' :=
  Calls.mono h fun _ _ ⟨r0, he, hR⟩ => ⟨r0, he, hr _ _ hR⟩
def C25 (x1 : Option Addr) (w : World) (R : Slc → World → Prop) : Prop :=
  Calls Tryd.prog 25 #[.pointer x1] w fun e w' => ∃ r0 : Slc, e = .returned (Slc.v r0) ∧ R r0 w'
theorem C25.mono {x1 : Option Addr} {w : World} {R R' : Slc → World → Prop} (h : C25 x1 w R) (hr : ∀ r0 w', R r0 w' → R' r0 w') : C25 x1 w R' :=
  Calls.mono h fun _ _ ⟨r0, he, hR⟩ => ⟨r0, he, hr _ _ hR⟩
def C88 (s11 : Slc) (s22 : Slc) (w : World) (R : Bool → World → Prop) : Prop :=
  Calls Tryd.prog 88 #[Slc.v s11, Slc.v s22] w fun e w' => ∃ r0 : Bool, e = .returned (.bool r0) ∧ R r0 w'
theorem C88.mono {s11 : Slc} {s22 : Slc} {w : World} {R R' : Bool → World → Prop} (h : C88 s11 s22 w R) (hr : ∀ r0 w', R r0 w' → R' r0 w') : C88 s11 s22 w R' :=
  Calls.mono h fun _ _ ⟨r0, he, hR⟩ => ⟨r0, he, hr _ _ hR⟩
def C28 (a1 : Slc) (b2 : Slc) (w : World) (R : Bool → World → Prop) : Prop :=
  Calls Tryd.prog 28 #[Slc.v a1, Slc.v b2] w fun e w' => ∃ r0 : Bool, e = .returned (.bool r0) ∧ R r0 w'
theorem C28.mono {a1 : Slc} {b2 : Slc} {w : World} {R R' : Bool → World → Prop} (h : C28 a1 b2 w R) (hr : ∀ r0 w', R r0 w' → R' r0 w') : C28 a1 b2 w R' :=
  Calls.mono h fun _ _ ⟨r0, he, hR⟩ => ⟨r0, he, hr _ _ hR⟩

/-- foliant/path.New -/
def S22 (w : World) (R : Option Addr → World → Prop) : Prop :=
  Nw w (.cells #[Slc.v ((⟨none, 0, 0⟩ : Slc)), .int .i64 0, .int .i64 0, .bool false] 134) fun vw1 =>
  R (some (⟨w.heap.size, 0, none⟩ : Addr)) vw1
def pl22 : Plan := (.seq (.reg .seq) (.seq (.reg .seq) .leaf))
set_option maxRecDepth 100000 in
theorem T22 (w : World) (R : Option Addr → World → Prop) (h : S22 w R) : C22 w R := by
  have e : fnT Tryd.prog ⟨FF, MAY, (fun _ _ => False)⟩ pl22 Tryd.f22 [] w [(.one .ptr)] (fun s w => R s w) = S22 w R := by kernel_rfl
  exact (fn_calls okF okM Tryd.func22 (by kernel_rfl) (by kernel_rfl) (e.mpr h)).mono fun _ _ ⟨s, he, hR⟩ => ⟨s, he, hR⟩

/-- (*foliant/path.Path).Do$1 -/
def S76_nil (c1 : Addr) (w : World) (R : World → Prop) : Prop :=
  R w
def pl76_nil : Plan := (.block (.seq (.reg .seq) (.cond (.reg .seq) (.seq (.reg .seq) (.cond (.seq (.reg .seq) (.reg .seq)) (.seq (.reg .seq) (.reg .seq)))))))
set_option maxRecDepth 100000 in
theorem T76_nil (c1 : Addr) (w : World) (R : World → Prop) (h : S76_nil c1 w R) : CD76 c1 none w R := by
  have e : fnTS Tryd.prog FF MAY pl76_nil Tryd.f76 [.pointer (some c1)] none w R = S76_nil c1 w R := by kernel_rfl
  exact fnS_calls okF okM Tryd.func76 (by kernel_rfl) (by kernel_rfl) (e.mpr h)

/-- (*foliant/path.Path).Do$1 -/
def S76_T136 (c1 : Addr) (u2 : Int) (w : World) (R : World → Prop) : Prop :=
  Nw w (.cells #[.int .i64 0] 136) fun vw3 =>
  St vw3 (⟨w.heap.size, 0, none⟩ : Addr) (.int .i64 u2) fun vw4 =>
  Ld vw4 (⟨w.heap.size, 0, none⟩ : Addr) (Value.int .i64) fun (x5 : Int) =>
  St vw4 c1 (.int .i64 x5) fun vw6 =>
  R vw6
def pl76_T136 : Plan := (.block (.seq (.reg .seq) (.cond (.reg .seq) (.seq (.reg .seq) (.cond (.seq (.reg .seq) (.reg .seq)) (.seq (.reg .seq) (.reg .seq)))))))
set_option maxRecDepth 100000 in
theorem T76_T136 (c1 : Addr) (u2 : Int) (w : World) (R : World → Prop) (h : S76_T136 c1 u2 w R) : CD76 c1 (some (.iface 136 (.agg #[.int .i64 u2]))) w R := by
  have e : fnTS Tryd.prog FF MAY pl76_T136 Tryd.f76 [.pointer (some c1)] (some (.iface 136 (.agg #[.int .i64 u2]))) w R = S76_T136 c1 u2 w R := by kernel_rfl
  exact fnS_calls okF okM Tryd.func76 (by kernel_rfl) (by kernel_rfl) (e.mpr h)

/-- foliant/path.need -/
def S77 (holds1 : Bool) (why2 : Int) (w : World) (R : World → Prop) (PR : Value → World → Prop) : Prop :=
  Br (!holds1) (PR (.iface 136 (.agg #[.int .i64 why2])) w) (R w)
def pl77 : Plan := (.seq (.reg .seq) (.cond (.reg .seq) .leaf))
set_option maxRecDepth 100000 in
theorem T77 (holds1 : Bool) (why2 : Int) (w : World) (R : World → Prop) (PR : Value → World → Prop) (h : S77 holds1 why2 w R PR) : C77 holds1 why2 w R PR := by
  have e : fnT Tryd.prog ⟨FF, MAY, PR⟩ pl77 Tryd.f77 [.bool holds1, .int .i64 why2] w [] (fun _ w => R w) = S77 holds1 why2 w R PR := by kernel_rfl
  exact (fn_callsP okF okM Tryd.func77 (by kernel_rfl) (by kernel_rfl) (e.mpr h)).mono fun _ _ he => he.elim (fun ⟨_, he, hR⟩ => .inl ⟨he, hR⟩) .inr

/-- foliant/path.knows -/
def S78 (name1 : ByteArray) (w : World) (R : Bool → World → Prop) : Prop :=
  Nw w (.cells #[.string ((⟨#[109]⟩ : ByteArray)), .string ((⟨#[108]⟩ : ByteArray)), .string ((⟨#[99]⟩ : ByteArray)), .string ((⟨#[118]⟩ : ByteArray)), .string ((⟨#[121]⟩ : ByteArray)), .string ((⟨#[104]⟩ : ByteArray)), .string ((⟨#[114, 101]⟩ : ByteArray)), .string ((⟨#[87]⟩ : ByteArray)), .string ((⟨#[87, 42]⟩ : ByteArray))] 9) fun vw2 =>
  C140 (⟨some ⟨w.heap.size, 0, none⟩, 9, 9⟩ : Slc) name1 vw2 fun r3 vw4 =>
    R r3 vw4
def pl78 : Plan := (.seq (.reg .seq) (.seq (.reg .seq) .leaf))
set_option maxRecDepth 100000 in
theorem T78 (name1 : ByteArray) (w : World) (R : Bool → World → Prop) (h : S78 name1 w R) : C78 name1 w R := by
  have e : fnT Tryd.prog ⟨FF, MAY, (fun _ _ => False)⟩ pl78 Tryd.f78 [.string name1] w [(.one .bool)] (fun s w => R s w) = S78 name1 w R := by kernel_rfl
  exact (fn_calls okF okM Tryd.func78 (by kernel_rfl) (by kernel_rfl) (e.mpr h)).mono fun _ _ ⟨s, he, hR⟩ => ⟨s, he, hR⟩

/-- foliant/path.must[foliant/api.Op] -/
def S79 (x1 : ByteArray × Slc × ByteArray) (why2 : Int) (w : World) (R : (ByteArray × Slc × ByteArray) → World → Prop) (PR : Value → World → Prop) : Prop :=
  Nw w (.cells #[.string x1.1, Slc.v x1.2.1, .string x1.2.2] 63) fun vw3 =>
  Nw vw3 (.cells #[.string ((⟨#[]⟩ : ByteArray)), Slc.v ((⟨none, 0, 0⟩ : Slc)), .string ((⟨#[]⟩ : ByteArray))] 63) fun vw4 =>
  C77 (why2 == 0) why2 vw4 (fun vw5 =>
    Ld vw5 (⟨w.heap.size, 0, none⟩ : Addr) Value.string fun (x6 : ByteArray) =>
    Ld vw5 ((⟨w.heap.size, 0, none⟩ : Addr).add 1) Slc.v fun (x7 : Slc) =>
    Ld vw5 ((⟨w.heap.size, 0, none⟩ : Addr).add 2) Value.string fun (x8 : ByteArray) =>
    St vw5 (⟨vw3.heap.size, 0, none⟩ : Addr) (.string x6) fun vw9 =>
    St vw9 ((⟨vw3.heap.size, 0, none⟩ : Addr).add 1) (Slc.v x7) fun vw10 =>
    St vw10 ((⟨vw3.heap.size, 0, none⟩ : Addr).add 2) (.string x8) fun vw11 =>
    Ld vw11 (⟨vw3.heap.size, 0, none⟩ : Addr) Value.string fun (x12 : ByteArray) =>
    Ld vw11 ((⟨vw3.heap.size, 0, none⟩ : Addr).add 1) Slc.v fun (x13 : Slc) =>
    Ld vw11 ((⟨vw3.heap.size, 0, none⟩ : Addr).add 2) Value.string fun (x14 : ByteArray) =>
    R (x12, x13, x14) vw11) PR
def pl79 : Plan := (.seq (.reg .seq) (.seq (.reg .seq) (.seq (.reg .seq) .leaf)))
set_option maxRecDepth 100000 in
theorem T79 (x1 : ByteArray × Slc × ByteArray) (why2 : Int) (w : World) (R : (ByteArray × Slc × ByteArray) → World → Prop) (PR : Value → World → Prop) (h : S79 x1 why2 w R PR) : C79 (x1.1, x1.2.1, x1.2.2) why2 w R PR := by
  have e : fnT Tryd.prog ⟨FF, MAY, PR⟩ pl79 Tryd.f79 [.agg #[.string x1.1, Slc.v x1.2.1, .string x1.2.2], .int .i64 why2] w [(.agg [.str, .slc, .str])] (fun s w => R s w) = S79 x1 why2 w R PR := by kernel_rfl
  exact (fn_callsP okF okM Tryd.func79 (by kernel_rfl) (by kernel_rfl) (e.mpr h)).mono fun _ _ he => he.elim (fun ⟨s, he, hR⟩ => .inl ⟨s, he, hR⟩) .inr

/-- (*foliant/path.Path).current -/
def S81 (x1 : Option Addr) (w : World) (R : (Int × Int) → World → Prop) : Prop :=
  Nw w (.cells #[.int .i64 0, .int .i64 0] 43) fun vw2 =>
  ∃ vS29 : World → Prop, vS29 vw2.drew ∧ Nn x1 fun a30 =>
  LdS vS29 a30 Slc.v fun (x31 : Slc) =>
  Nn x1 fun a32 =>
  LdS vS29 a32 Slc.v fun (x33 : Slc) =>
  0 ≤ (IntKind.i64.wrap (((x33.len : Nat) : Int) - 1)) ∧ (IntKind.i64.wrap (((x33.len : Nat) : Int) - 1)) < (x31.len : Nat) ∧ Nn x31.p fun a34 =>
  LdS vS29 (a34.add ((IntKind.i64.wrap (((x33.len : Nat) : Int) - 1)).toNat * 7)) (Value.int .i64) fun (x35 : Int) =>
  LdS vS29 ((a34.add ((IntKind.i64.wrap (((x33.len : Nat) : Int) - 1)).toNat * 7)).add 1) (Value.int .i64) fun (x36 : Int) =>
  LdS vS29 ((a34.add ((IntKind.i64.wrap (((x33.len : Nat) : Int) - 1)).toNat * 7)).add 2) (Value.int .i64) fun (x37 : Int) =>
  LdS vS29 ((a34.add ((IntKind.i64.wrap (((x33.len : Nat) : Int) - 1)).toNat * 7)).add 3) (Value.int .i64) fun (x38 : Int) =>
  LdS vS29 ((a34.add ((IntKind.i64.wrap (((x33.len : Nat) : Int) - 1)).toNat * 7)).add 4) (Value.int .i64) fun (x39 : Int) =>
  LdS vS29 ((a34.add ((IntKind.i64.wrap (((x33.len : Nat) : Int) - 1)).toNat * 7)).add 5) (Value.int .i64) fun (x40 : Int) =>
  LdS vS29 ((a34.add ((IntKind.i64.wrap (((x33.len : Nat) : Int) - 1)).toNat * 7)).add 6) (Value.int .i64) fun (x41 : Int) =>
  Nw vw2.drew (.cells #[.int .i64 0, .int .i64 0, .int .i64 0, .int .i64 0, .int .i64 0, .int .i64 0, .int .i64 0] 67) fun vw42 =>
  vS29 vw42 ∧ St vw42 (⟨vw2.drew.heap.size, 0, none⟩ : Addr) (.int .i64 x35) fun vw43 =>
  St vw43 ((⟨vw2.drew.heap.size, 0, none⟩ : Addr).add 1) (.int .i64 x36) fun vw44 =>
  St vw44 ((⟨vw2.drew.heap.size, 0, none⟩ : Addr).add 2) (.int .i64 x37) fun vw45 =>
  St vw45 ((⟨vw2.drew.heap.size, 0, none⟩ : Addr).add 3) (.int .i64 x38) fun vw46 =>
  St vw46 ((⟨vw2.drew.heap.size, 0, none⟩ : Addr).add 4) (.int .i64 x39) fun vw47 =>
  St vw47 ((⟨vw2.drew.heap.size, 0, none⟩ : Addr).add 5) (.int .i64 x40) fun vw48 =>
  St vw48 ((⟨vw2.drew.heap.size, 0, none⟩ : Addr).add 6) (.int .i64 x41) fun vw49 =>
  Ld vw49 (⟨vw2.drew.heap.size, 0, none⟩ : Addr) (Value.int .i64) fun (x50 : Int) =>
  Br (x50 != 4) (Ld vw49 ((⟨vw2.drew.heap.size, 0, none⟩ : Addr).add 5) (Value.int .i64) fun (x51 : Int) =>
    Ld vw49 (((⟨vw2.drew.heap.size, 0, none⟩ : Addr).add 5).add 1) (Value.int .i64) fun (x52 : Int) =>
    St vw49 (⟨w.heap.size, 0, none⟩ : Addr) (.int .i64 x51) fun vw53 =>
    St vw53 ((⟨w.heap.size, 0, none⟩ : Addr).add 1) (.int .i64 x52) fun vw54 =>
    Ld vw54 (⟨w.heap.size, 0, none⟩ : Addr) (Value.int .i64) fun (x55 : Int) =>
    Ld vw54 ((⟨w.heap.size, 0, none⟩ : Addr).add 1) (Value.int .i64) fun (x56 : Int) =>
    R (x55, x56) vw54) (Nn x1 fun a57 =>
    Ld vw49 (a57.add 1) (Value.int .i64) fun (x58 : Int) =>
    Ld vw49 ((a57.add 1).add 1) (Value.int .i64) fun (x59 : Int) =>
    St vw49 (⟨w.heap.size, 0, none⟩ : Addr) (.int .i64 x58) fun vw60 =>
    St vw60 ((⟨w.heap.size, 0, none⟩ : Addr).add 1) (.int .i64 x59) fun vw61 =>
    Ld vw61 (⟨w.heap.size, 0, none⟩ : Addr) (Value.int .i64) fun (x62 : Int) =>
    Ld vw61 ((⟨w.heap.size, 0, none⟩ : Addr).add 1) (Value.int .i64) fun (x63 : Int) =>
    R (x62, x63) vw61)
def pl81 : Plan := (.seq (.reg .seq) (.seq (.seq (.reg (.held [13] (.take 0 (.take 1 (.take 2 (.take 3 (.take 4 (.take 5 (.take 6 (.take 7 (.take 8 (.take 9 (.take 10 (.take 11 (.eff 12 none (.eff 13 (some []) .done)))))))))))))))) (.seq (.reg .seq) (.cond (.seq (.reg .seq) .leaf) .leaf))) (.seq (.reg .seq) .leaf)))
set_option maxRecDepth 100000 in
theorem T81 (x1 : Option Addr) (w : World) (R : (Int × Int) → World → Prop) (h : S81 x1 w R) : C81 x1 w R := by
  have e : fnT Tryd.prog ⟨FF, MAY, (fun _ _ => False)⟩ pl81 Tryd.f81 [.pointer x1] w [(.agg [(.int .i64), (.int .i64)])] (fun s w => R s w) = S81 x1 w R := by kernel_rfl
  exact (fn_calls okF okM Tryd.func81 (by kernel_rfl) (by kernel_rfl) (e.mpr h)).mono fun _ _ ⟨s, he, hR⟩ => ⟨s, he, hR⟩

/-- foliant/path.must[[]int64] -/
def S82 (x1 : Slc) (why2 : Int) (w : World) (R : Slc → World → Prop) (PR : Value → World → Prop) : Prop :=
  C77 (why2 == 0) why2 w (fun vw3 =>
    R x1 vw3) PR
def pl82 : Plan := (.seq (.reg .seq) (.seq (.reg .seq) (.seq (.reg .seq) .leaf)))
set_option maxRecDepth 100000 in
theorem T82 (x1 : Slc) (why2 : Int) (w : World) (R : Slc → World → Prop) (PR : Value → World → Prop) (h : S82 x1 why2 w R PR) : C82 x1 why2 w R PR := by
  have e : fnT Tryd.prog ⟨FF, MAY, PR⟩ pl82 Tryd.f82 [Slc.v x1, .int .i64 why2] w [(.one .slc)] (fun s w => R s w) = S82 x1 why2 w R PR := by kernel_rfl
  exact (fn_callsP okF okM Tryd.func82 (by kernel_rfl) (by kernel_rfl) (e.mpr h)).mono fun _ _ he => he.elim (fun ⟨s, he, hR⟩ => .inl ⟨s, he, hR⟩) .inr

def S83L1 (x3 : Slc) (R : Slc → Int → World → Prop) (I6 : (Slc × Int) → World → Prop) (s4 : Slc × Int) (vw5 : World) : Prop :=
  Br (decide (s4.2 < ((x3.len : Nat) : Int))) (0 ≤ s4.2 ∧ s4.2 < (x3.len : Nat) ∧ Nn x3.p fun a7 =>
    Ld vw5 (a7.add ((s4.2).toNat * 6)) (Value.int .i64) fun (x8 : Int) =>
    Ld vw5 ((a7.add ((s4.2).toNat * 6)).add 1) (Value.int .i64) fun (x9 : Int) =>
    Ld vw5 ((a7.add ((s4.2).toNat * 6)).add 2) (Value.int .i64) fun (x10 : Int) =>
    Ld vw5 ((a7.add ((s4.2).toNat * 6)).add 3) Value.string fun (x11 : ByteArray) =>
    Ld vw5 ((a7.add ((s4.2).toNat * 6)).add 4) Slc.v fun (x12 : Slc) =>
    Ld vw5 ((a7.add ((s4.2).toNat * 6)).add 5) Slc.v fun (x13 : Slc) =>
    Nw vw5 (.cells #[.int .i64 0, .int .i64 0, .int .i64 0, .string ((⟨#[]⟩ : ByteArray)), Slc.v ((⟨none, 0, 0⟩ : Slc)), Slc.v ((⟨none, 0, 0⟩ : Slc))] 81) fun vw14 =>
    St vw14 (⟨vw5.heap.size, 0, none⟩ : Addr) (.int .i64 x8) fun vw15 =>
    St vw15 ((⟨vw5.heap.size, 0, none⟩ : Addr).add 1) (.int .i64 x9) fun vw16 =>
    St vw16 ((⟨vw5.heap.size, 0, none⟩ : Addr).add 2) (.int .i64 x10) fun vw17 =>
    St vw17 ((⟨vw5.heap.size, 0, none⟩ : Addr).add 3) (.string x11) fun vw18 =>
    St vw18 ((⟨vw5.heap.size, 0, none⟩ : Addr).add 4) (Slc.v x12) fun vw19 =>
    St vw19 ((⟨vw5.heap.size, 0, none⟩ : Addr).add 5) (Slc.v x13) fun vw20 =>
    Ld vw20 (⟨vw5.heap.size, 0, none⟩ : Addr) (Value.int .i64) fun (x23 : Int) =>
    Br (x23 != 2) (Ld vw20 (⟨vw5.heap.size, 0, none⟩ : Addr) (Value.int .i64) fun (x24 : Int) =>
      Br (x24 != 3) (R (⟨none, 0, 0⟩ : Slc) 10 vw20) (Ld vw20 (⟨vw5.heap.size, 0, none⟩ : Addr) (Value.int .i64) fun (x25 : Int) =>
        Ld vw20 ((⟨vw5.heap.size, 0, none⟩ : Addr).add 1) (Value.int .i64) fun (x26 : Int) =>
        Ld vw20 ((⟨vw5.heap.size, 0, none⟩ : Addr).add 2) (Value.int .i64) fun (x27 : Int) =>
        Ld vw20 ((⟨vw5.heap.size, 0, none⟩ : Addr).add 3) Value.string fun (x28 : ByteArray) =>
        Ld vw20 ((⟨vw5.heap.size, 0, none⟩ : Addr).add 4) Slc.v fun (x29 : Slc) =>
        Ld vw20 ((⟨vw5.heap.size, 0, none⟩ : Addr).add 5) Slc.v fun (x30 : Slc) =>
        C143 (x25, x26, x27, x28, x29, x30) vw20 fun r31 r32 vw33 =>
          Br (!r32) (R (⟨none, 0, 0⟩ : Slc) 2 vw33) (Nw vw33 (.cells #[.int .i64 r31] 2) fun vw34 =>
            Rn Tryd.prog (Builtin.append_ #[24, 24] 24 #[Slc.v s4.1, Slc.v ((⟨some ⟨vw33.heap.size, 0, none⟩, 1, 1⟩ : Slc))]) vw34 Slc.v fun (x35 : Slc) vw36 =>
            I6 (x35, IntKind.i64.wrap (s4.2 + 1)) vw36))) (Ld vw20 (⟨vw5.heap.size, 0, none⟩ : Addr) (Value.int .i64) fun (x37 : Int) =>
      Ld vw20 ((⟨vw5.heap.size, 0, none⟩ : Addr).add 1) (Value.int .i64) fun (x38 : Int) =>
      Ld vw20 ((⟨vw5.heap.size, 0, none⟩ : Addr).add 2) (Value.int .i64) fun (x39 : Int) =>
      Ld vw20 ((⟨vw5.heap.size, 0, none⟩ : Addr).add 3) Value.string fun (x40 : ByteArray) =>
      Ld vw20 ((⟨vw5.heap.size, 0, none⟩ : Addr).add 4) Slc.v fun (x41 : Slc) =>
      Ld vw20 ((⟨vw5.heap.size, 0, none⟩ : Addr).add 5) Slc.v fun (x42 : Slc) =>
      C143 (x37, x38, x39, x40, x41, x42) vw20 fun r43 r44 vw45 =>
        Br (!r44) (R (⟨none, 0, 0⟩ : Slc) 2 vw45) (Nw vw45 (.cells #[.int .i64 r43] 2) fun vw46 =>
          Rn Tryd.prog (Builtin.append_ #[24, 24] 24 #[Slc.v s4.1, Slc.v ((⟨some ⟨vw45.heap.size, 0, none⟩, 1, 1⟩ : Slc))]) vw46 Slc.v fun (x47 : Slc) vw48 =>
          I6 (x47, IntKind.i64.wrap (s4.2 + 1)) vw48))) (R s4.1 0 vw5)
/-- foliant/ops.Nums -/
def S83 (o1 : ByteArray × Slc × ByteArray) (w : World) (R : Slc → Int → World → Prop) : Prop :=
  Nw w (.cells #[.string o1.1, Slc.v o1.2.1, .string o1.2.2] 63) fun vw2 =>
  Ld vw2 ((⟨w.heap.size, 0, none⟩ : Addr).add 1) Slc.v fun (x3 : Slc) =>
  Lp (σ := Slc × Int) (S83L1 x3 R) ((⟨none, 0, 0⟩ : Slc), 0) vw2
def pl83 : Plan := (.seq (.reg .seq) (.seq (.reg .seq) (.seq (.seq (.reg .seq) (.block (.loop [(4, (.one .slc)), (12, (.one (.int .i64)))] [10, 11] (.seq (.reg .seq) (.seq (.cond .leaf .leaf) (.seq (.block (.seq (.reg .seq) (.seq (.seq (.reg .seq) (.cond (.seq (.reg .seq) .leaf) .leaf)) (.seq (.reg .seq) (.seq (.seq (.reg .seq) (.cond (.seq (.reg .seq) .leaf) .leaf)) (.reg .seq)))))) (.reg .seq))))))) (.seq (.reg .seq) .leaf))))
set_option maxRecDepth 100000 in
theorem T83 (o1 : ByteArray × Slc × ByteArray) (w : World) (R : Slc → Int → World → Prop) (h : S83 o1 w R) : C83 (o1.1, o1.2.1, o1.2.2) w R := by
  have e : fnT Tryd.prog ⟨FF, MAY, (fun _ _ => False)⟩ pl83 Tryd.f83 [.agg #[.string o1.1, Slc.v o1.2.1, .string o1.2.2]] w [(.one .slc), (.one (.int .i64))] (fun s w => R s.1 s.2 w) = S83 o1 w R := by kernel_rfl
  exact (fn_calls okF okM Tryd.func83 (by kernel_rfl) (by kernel_rfl) (e.mpr h)).mono fun _ _ ⟨s, he, hR⟩ => ⟨s.1, s.2, he, hR⟩

/-- (*foliant/path.pen).put -/
def S144 (p1 : Option Addr) (s2 : Int × Int × Int × Int × Int × Int × Int) (w : World) (R : World → Prop) : Prop :=
  Nw w (.cells #[.int .i64 (s2.1), .int .i64 (s2.2.1), .int .i64 (s2.2.2.1), .int .i64 (s2.2.2.2.1), .int .i64 (s2.2.2.2.2.1), .int .i64 (s2.2.2.2.2.2.1), .int .i64 (s2.2.2.2.2.2.2)] 67) fun vw3 =>
  ∃ vS4 : World → Prop, vS4 vw3.drew ∧ Nn p1 fun a5 =>
  LdS vS4 (a5.add 9) Slc.v fun (x6 : Slc) =>
  LdS vS4 (⟨w.heap.size, 0, none⟩ : Addr) (Value.int .i64) fun (x7 : Int) =>
  LdS vS4 ((⟨w.heap.size, 0, none⟩ : Addr).add 1) (Value.int .i64) fun (x8 : Int) =>
  LdS vS4 ((⟨w.heap.size, 0, none⟩ : Addr).add 2) (Value.int .i64) fun (x9 : Int) =>
  LdS vS4 ((⟨w.heap.size, 0, none⟩ : Addr).add 3) (Value.int .i64) fun (x10 : Int) =>
  LdS vS4 ((⟨w.heap.size, 0, none⟩ : Addr).add 4) (Value.int .i64) fun (x11 : Int) =>
  LdS vS4 ((⟨w.heap.size, 0, none⟩ : Addr).add 5) (Value.int .i64) fun (x12 : Int) =>
  LdS vS4 ((⟨w.heap.size, 0, none⟩ : Addr).add 6) (Value.int .i64) fun (x13 : Int) =>
  Nw vw3.drew (.cells #[.int .i64 x7, .int .i64 x8, .int .i64 x9, .int .i64 x10, .int .i64 x11, .int .i64 x12, .int .i64 x13] 67) fun vw14 =>
  vS4 vw14 ∧ Rn Tryd.prog (Builtin.append_ #[64, 64] 64 #[Slc.v x6, Slc.v ((⟨some ⟨vw3.drew.heap.size, 0, none⟩, 1, 1⟩ : Slc))]) vw14 Slc.v fun (x15 : Slc) vw16 =>
  Nn p1 fun a17 =>
  St vw16 (a17.add 9) (Slc.v x15) fun vw18 =>
  R vw18
def pl144 : Plan := (.seq (.reg .seq) (.reg (.held [7] (.take 0 (.take 1 (.take 2 (.take 3 (.take 4 (.take 5 (.eff 6 none (.eff 7 (some [10]) (.take 8 (.take 9 (.eff 10 (some []) .done))))))))))))))
set_option maxRecDepth 100000 in
theorem T144 (p1 : Option Addr) (s2 : Int × Int × Int × Int × Int × Int × Int) (w : World) (R : World → Prop) (h : S144 p1 s2 w R) : C144 p1 (s2.1, s2.2.1, s2.2.2.1, s2.2.2.2.1, s2.2.2.2.2.1, s2.2.2.2.2.2.1, s2.2.2.2.2.2.2) w R := by
  have e : fnT Tryd.prog ⟨FF, MAY, (fun _ _ => False)⟩ pl144 Tryd.f144 [.pointer p1, .agg #[.int .i64 (s2.1), .int .i64 (s2.2.1), .int .i64 (s2.2.2.1), .int .i64 (s2.2.2.2.1), .int .i64 (s2.2.2.2.2.1), .int .i64 (s2.2.2.2.2.2.1), .int .i64 (s2.2.2.2.2.2.2)]] w [] (fun _ w => R w) = S144 p1 s2 w R := by kernel_rfl
  exact (fn_calls okF okM Tryd.func144 (by kernel_rfl) (by kernel_rfl) (e.mpr h)).mono fun _ _ ⟨_, he, hR⟩ => ⟨he, hR⟩

/-- foliant/path.must[foliant/api.Point] -/
def S205 (x1 : Int × Int) (why2 : Int) (w : World) (R : (Int × Int) → World → Prop) (PR : Value → World → Prop) : Prop :=
  Nw w (.cells #[.int .i64 (x1.1), .int .i64 (x1.2)] 43) fun vw3 =>
  Nw vw3 (.cells #[.int .i64 0, .int .i64 0] 43) fun vw4 =>
  C77 (why2 == 0) why2 vw4 (fun vw5 =>
    Ld vw5 (⟨w.heap.size, 0, none⟩ : Addr) (Value.int .i64) fun (x6 : Int) =>
    Ld vw5 ((⟨w.heap.size, 0, none⟩ : Addr).add 1) (Value.int .i64) fun (x7 : Int) =>
    St vw5 (⟨vw3.heap.size, 0, none⟩ : Addr) (.int .i64 x6) fun vw8 =>
    St vw8 ((⟨vw3.heap.size, 0, none⟩ : Addr).add 1) (.int .i64 x7) fun vw9 =>
    Ld vw9 (⟨vw3.heap.size, 0, none⟩ : Addr) (Value.int .i64) fun (x10 : Int) =>
    Ld vw9 ((⟨vw3.heap.size, 0, none⟩ : Addr).add 1) (Value.int .i64) fun (x11 : Int) =>
    R (x10, x11) vw9) PR
def pl205 : Plan := (.seq (.reg .seq) (.seq (.reg .seq) (.seq (.reg .seq) .leaf)))
set_option maxRecDepth 100000 in
theorem T205 (x1 : Int × Int) (why2 : Int) (w : World) (R : (Int × Int) → World → Prop) (PR : Value → World → Prop) (h : S205 x1 why2 w R PR) : C205 (x1.1, x1.2) why2 w R PR := by
  have e : fnT Tryd.prog ⟨FF, MAY, PR⟩ pl205 Tryd.f205 [.agg #[.int .i64 (x1.1), .int .i64 (x1.2)], .int .i64 why2] w [(.agg [(.int .i64), (.int .i64)])] (fun s w => R s w) = S205 x1 why2 w R PR := by kernel_rfl
  exact (fn_callsP okF okM Tryd.func205 (by kernel_rfl) (by kernel_rfl) (e.mpr h)).mono fun _ _ he => he.elim (fun ⟨s, he, hR⟩ => .inl ⟨s, he, hR⟩) .inr

/-- (*foliant/path.pen).point -/
def S192 (p1 : Option Addr) (x2 : Int) (y3 : Int) (w : World) (R : (Int × Int) → World → Prop) (PR : Value → World → Prop) : Prop :=
  Nw w (.cells #[.int .i64 0, .int .i64 0] 43) fun vw4 =>
  Nn p1 fun a5 =>
  Ld vw4 a5 (Value.int .i64) fun (x6 : Int) =>
  Ld vw4 (a5.add 1) (Value.int .i64) fun (x7 : Int) =>
  Ld vw4 (a5.add 2) (Value.int .i64) fun (x8 : Int) =>
  Ld vw4 (a5.add 3) (Value.int .i64) fun (x9 : Int) =>
  Ld vw4 (a5.add 4) (Value.int .i64) fun (x10 : Int) =>
  Ld vw4 (a5.add 5) (Value.int .i64) fun (x11 : Int) =>
  C19 (x6, x7, x8, x9, x10, x11) (x2, y3) vw4 fun r12 r13 vw14 =>
    C205 (r12.1, r12.2) r13 vw14 (fun r15 vw16 =>
      St vw16 (⟨w.heap.size, 0, none⟩ : Addr) (.int .i64 (r15.1)) fun vw17 =>
      St vw17 ((⟨w.heap.size, 0, none⟩ : Addr).add 1) (.int .i64 (r15.2)) fun vw18 =>
      Ld vw18 (⟨w.heap.size, 0, none⟩ : Addr) (Value.int .i64) fun (x19 : Int) =>
      Ld vw18 ((⟨w.heap.size, 0, none⟩ : Addr).add 1) (Value.int .i64) fun (x20 : Int) =>
      R (x19, x20) vw18) PR
def pl192 : Plan := (.seq (.reg .seq) (.seq (.reg .seq) .leaf))
set_option maxRecDepth 100000 in
theorem T192 (p1 : Option Addr) (x2 : Int) (y3 : Int) (w : World) (R : (Int × Int) → World → Prop) (PR : Value → World → Prop) (h : S192 p1 x2 y3 w R PR) : C192 p1 x2 y3 w R PR := by
  have e : fnT Tryd.prog ⟨FF, MAY, PR⟩ pl192 Tryd.f192 [.pointer p1, .int .i64 x2, .int .i64 y3] w [(.agg [(.int .i64), (.int .i64)])] (fun s w => R s w) = S192 p1 x2 y3 w R PR := by kernel_rfl
  exact (fn_callsP okF okM Tryd.func192 (by kernel_rfl) (by kernel_rfl) (e.mpr h)).mono fun _ _ he => he.elim (fun ⟨s, he, hR⟩ => .inl ⟨s, he, hR⟩) .inr

/-- (*foliant/path.pen).next -/
def S145 (p1 : Option Addr) (w : World) (R : (Int × Int) → World → Prop) (PR : Value → World → Prop) : Prop :=
  Nw w (.cells #[.int .i64 0, .int .i64 0] 43) fun vw2 =>
  ∃ vS22 : World → Prop, vS22 vw2.drew ∧ Nn p1 fun a23 =>
  LdS vS22 (a23.add 6) Slc.v fun (x24 : Slc) =>
  0 ≤ (0 : Int) ∧ (0 : Int) < (x24.len : Nat) ∧ Nn x24.p fun a25 =>
  LdS vS22 (a25.add (((0 : Int)).toNat * 1)) (Value.int .i64) fun (x26 : Int) =>
  Nn p1 fun a27 =>
  LdS vS22 (a27.add 6) Slc.v fun (x28 : Slc) =>
  0 ≤ (1 : Int) ∧ (1 : Int) < (x28.len : Nat) ∧ Nn x28.p fun a29 =>
  LdS vS22 (a29.add (((1 : Int)).toNat * 1)) (Value.int .i64) fun (x30 : Int) =>
  (C192 p1 x26 x30 vw2.drew (fun r31 vw32 =>
      Nw vw32 (.cells #[.int .i64 0, .int .i64 0] 43) fun vw33 =>
      St vw33 (⟨vw32.heap.size, 0, none⟩ : Addr) (.int .i64 (r31.1)) fun vw34 =>
      St vw34 ((⟨vw32.heap.size, 0, none⟩ : Addr).add 1) (.int .i64 (r31.2)) fun vw35 =>
      Nn p1 fun a36 =>
      Ld vw35 (a36.add 6) Slc.v fun (x37 : Slc) =>
      0 ≤ (2 : Int) ∧ (2 : Int) ≤ ((x37.len : Nat) : Int) ∧ Nn p1 fun a38 =>
      St vw35 (a38.add 6) (Slc.v (x37.cut 1 (((2 : Int)).toNat) x37.len x37.cap)) fun vw39 =>
      Ld vw39 (⟨vw32.heap.size, 0, none⟩ : Addr) (Value.int .i64) fun (x40 : Int) =>
      Ld vw39 ((⟨vw32.heap.size, 0, none⟩ : Addr).add 1) (Value.int .i64) fun (x41 : Int) =>
      St vw39 (⟨w.heap.size, 0, none⟩ : Addr) (.int .i64 x40) fun vw42 =>
      St vw42 ((⟨w.heap.size, 0, none⟩ : Addr).add 1) (.int .i64 x41) fun vw43 =>
      Ld vw43 (⟨w.heap.size, 0, none⟩ : Addr) (Value.int .i64) fun (x44 : Int) =>
      Ld vw43 ((⟨w.heap.size, 0, none⟩ : Addr).add 1) (Value.int .i64) fun (x45 : Int) =>
      R (x44, x45) vw43) PR) ∧
  (Nw vw2.drew (.cells #[.int .i64 0, .int .i64 0] 43) fun vw46 =>
    vS22 vw46 ∧ C192 p1 x26 x30 vw46 (fun r47 vw48 =>
      St vw48 (⟨vw2.drew.heap.size, 0, none⟩ : Addr) (.int .i64 (r47.1)) fun vw49 =>
      St vw49 ((⟨vw2.drew.heap.size, 0, none⟩ : Addr).add 1) (.int .i64 (r47.2)) fun vw50 =>
      Nn p1 fun a51 =>
      Ld vw50 (a51.add 6) Slc.v fun (x52 : Slc) =>
      0 ≤ (2 : Int) ∧ (2 : Int) ≤ ((x52.len : Nat) : Int) ∧ Nn p1 fun a53 =>
      St vw50 (a53.add 6) (Slc.v (x52.cut 1 (((2 : Int)).toNat) x52.len x52.cap)) fun vw54 =>
      Ld vw54 (⟨vw2.drew.heap.size, 0, none⟩ : Addr) (Value.int .i64) fun (x55 : Int) =>
      Ld vw54 ((⟨vw2.drew.heap.size, 0, none⟩ : Addr).add 1) (Value.int .i64) fun (x56 : Int) =>
      St vw54 (⟨w.heap.size, 0, none⟩ : Addr) (.int .i64 x55) fun vw57 =>
      St vw57 ((⟨w.heap.size, 0, none⟩ : Addr).add 1) (.int .i64 x56) fun vw58 =>
      Ld vw58 (⟨w.heap.size, 0, none⟩ : Addr) (Value.int .i64) fun (x59 : Int) =>
      Ld vw58 ((⟨w.heap.size, 0, none⟩ : Addr).add 1) (Value.int .i64) fun (x60 : Int) =>
      R (x59, x60) vw58) PR)
def pl145 : Plan := (.seq (.reg .seq) (.seq (.reg (.held [13] (.take 0 (.take 1 (.take 2 (.take 3 (.take 4 (.take 5 (.take 6 (.take 7 (.take 8 (.take 9 (.take 10 (.take 11 (.take 12 (.effs 13 (some [14]) (.eff 14 (some [15]) (.eff 15 (some []) .done)) (.eff 14 none (.eff 13 (some [15]) (.eff 15 (some []) .done))))))))))))))))))) (.seq (.reg .seq) (.seq (.reg .seq) .leaf))))
set_option maxRecDepth 100000 in
theorem T145 (p1 : Option Addr) (w : World) (R : (Int × Int) → World → Prop) (PR : Value → World → Prop) (h : S145 p1 w R PR) : C145 p1 w R PR := by
  have e : fnT Tryd.prog ⟨FF, MAY, PR⟩ pl145 Tryd.f145 [.pointer p1] w [(.agg [(.int .i64), (.int .i64)])] (fun s w => R s w) = S145 p1 w R PR := by kernel_rfl
  exact (fn_callsP okF okM Tryd.func145 (by kernel_rfl) (by kernel_rfl) (e.mpr h)).mono fun _ _ he => he.elim (fun ⟨s, he, hR⟩ => .inl ⟨s, he, hR⟩) .inr

/-- (*foliant/path.pen).curve -/
def S146 (p1 : Option Addr) (a2 : Int × Int) (b3 : Int × Int) (c4 : Int × Int) (w : World) (R : World → Prop) : Prop :=
  Nw w (.cells #[.int .i64 (a2.1), .int .i64 (a2.2)] 43) fun vw5 =>
  Nw vw5 (.cells #[.int .i64 (b3.1), .int .i64 (b3.2)] 43) fun vw6 =>
  Nw vw6 (.cells #[.int .i64 (c4.1), .int .i64 (c4.2)] 43) fun vw7 =>
  Ld vw7 (⟨w.heap.size, 0, none⟩ : Addr) (Value.int .i64) fun (x8 : Int) =>
  Ld vw7 ((⟨w.heap.size, 0, none⟩ : Addr).add 1) (Value.int .i64) fun (x9 : Int) =>
  Ld vw7 (⟨vw5.heap.size, 0, none⟩ : Addr) (Value.int .i64) fun (x10 : Int) =>
  Ld vw7 ((⟨vw5.heap.size, 0, none⟩ : Addr).add 1) (Value.int .i64) fun (x11 : Int) =>
  Ld vw7 (⟨vw6.heap.size, 0, none⟩ : Addr) (Value.int .i64) fun (x12 : Int) =>
  Ld vw7 ((⟨vw6.heap.size, 0, none⟩ : Addr).add 1) (Value.int .i64) fun (x13 : Int) =>
  C144 p1 (3, x8, x9, x10, x11, x12, x13) vw7 fun vw14 =>
    R vw14
def pl146 : Plan := (.seq (.reg .seq) (.reg .seq))
set_option maxRecDepth 100000 in
theorem T146 (p1 : Option Addr) (a2 : Int × Int) (b3 : Int × Int) (c4 : Int × Int) (w : World) (R : World → Prop) (h : S146 p1 a2 b3 c4 w R) : C146 p1 (a2.1, a2.2) (b3.1, b3.2) (c4.1, c4.2) w R := by
  have e : fnT Tryd.prog ⟨FF, MAY, (fun _ _ => False)⟩ pl146 Tryd.f146 [.pointer p1, .agg #[.int .i64 (a2.1), .int .i64 (a2.2)], .agg #[.int .i64 (b3.1), .int .i64 (b3.2)], .agg #[.int .i64 (c4.1), .int .i64 (c4.2)]] w [] (fun _ w => R w) = S146 p1 a2 b3 c4 w R := by kernel_rfl
  exact (fn_calls okF okM Tryd.func146 (by kernel_rfl) (by kernel_rfl) (e.mpr h)).mono fun _ _ ⟨_, he, hR⟩ => ⟨he, hR⟩

/-- foliant/path.must[int64] -/
def S193 (x1 : Int) (why2 : Int) (w : World) (R : Int → World → Prop) (PR : Value → World → Prop) : Prop :=
  C77 (why2 == 0) why2 w (fun vw3 =>
    R x1 vw3) PR
def pl193 : Plan := (.seq (.reg .seq) (.seq (.reg .seq) (.seq (.reg .seq) .leaf)))
set_option maxRecDepth 100000 in
theorem T193 (x1 : Int) (why2 : Int) (w : World) (R : Int → World → Prop) (PR : Value → World → Prop) (h : S193 x1 why2 w R PR) : C193 x1 why2 w R PR := by
  have e : fnT Tryd.prog ⟨FF, MAY, PR⟩ pl193 Tryd.f193 [.int .i64 x1, .int .i64 why2] w [(.one (.int .i64))] (fun s w => R s w) = S193 x1 why2 w R PR := by kernel_rfl
  exact (fn_callsP okF okM Tryd.func193 (by kernel_rfl) (by kernel_rfl) (e.mpr h)).mono fun _ _ he => he.elim (fun ⟨s, he, hR⟩ => .inl ⟨s, he, hR⟩) .inr

def S147L1 (p1 : Option Addr) (x5 : Int) (x9 : Int) (r18 : Int) (r28 : Int) (R : World → Prop) (PR : Value → World → Prop) (I32 : Int → World → Prop) (s30 : Int) (vw31 : World) : Prop :=
  Br (decide (s30 < 4)) (0 ≤ s30 ∧ s30 < (4 : Nat) ∧ ∃ x33 : Int × Int, (#[.int .i64 x5, .int .i64 x9, .int .i64 r18, .int .i64 x9, .int .i64 r18, .int .i64 r28, .int .i64 x5, .int .i64 r28] : Array Value).extract ((s30).toNat * 2) ((s30).toNat * 2 + 2) = #[.int .i64 (x33.1), .int .i64 (x33.2)] ∧ Nw vw31 (.cells #[.int .i64 0, .int .i64 0] 260) fun vw34 =>
    St vw34 (⟨vw31.heap.size, 0, none⟩ : Addr) (.int .i64 (x33.1)) fun vw35 =>
    St vw35 ((⟨vw31.heap.size, 0, none⟩ : Addr).add 1) (.int .i64 (x33.2)) fun vw36 =>
    Br (s30 == 0) (Ld vw36 (⟨vw31.heap.size, 0, none⟩ : Addr) (Value.int .i64) fun (x37 : Int) =>
      Ld vw36 ((⟨vw31.heap.size, 0, none⟩ : Addr).add 1) (Value.int .i64) fun (x38 : Int) =>
      C192 p1 x37 x38 vw36 (fun r39 vw40 =>
        C144 p1 (1, 0, 0, 0, 0, r39.1, r39.2) vw40 fun vw41 =>
          I32 (IntKind.i64.wrap (s30 + 1)) vw41) PR) (Ld vw36 (⟨vw31.heap.size, 0, none⟩ : Addr) (Value.int .i64) fun (x42 : Int) =>
      Ld vw36 ((⟨vw31.heap.size, 0, none⟩ : Addr).add 1) (Value.int .i64) fun (x43 : Int) =>
      C192 p1 x42 x43 vw36 (fun r44 vw45 =>
        C144 p1 (2, 0, 0, 0, 0, r44.1, r44.2) vw45 fun vw46 =>
          I32 (IntKind.i64.wrap (s30 + 1)) vw46) PR)) (C144 p1 (4, 0, 0, 0, 0, 0, 0) vw31 fun vw47 =>
      R vw47)
/-- (*foliant/path.pen).rect -/
def S147 (p1 : Option Addr) (w : World) (R : World → Prop) (PR : Value → World → Prop) : Prop :=
  Nn p1 fun a2 =>
  Ld w.drew (a2.add 6) Slc.v fun (x3 : Slc) =>
  0 ≤ (0 : Int) ∧ (0 : Int) < (x3.len : Nat) ∧ Nn x3.p fun a4 =>
  Ld w.drew (a4.add (((0 : Int)).toNat * 1)) (Value.int .i64) fun (x5 : Int) =>
  Nn p1 fun a6 =>
  Ld w.drew (a6.add 6) Slc.v fun (x7 : Slc) =>
  0 ≤ (1 : Int) ∧ (1 : Int) < (x7.len : Nat) ∧ Nn x7.p fun a8 =>
  Ld w.drew (a8.add (((1 : Int)).toNat * 1)) (Value.int .i64) fun (x9 : Int) =>
  Nn p1 fun a10 =>
  Ld w.drew (a10.add 6) Slc.v fun (x11 : Slc) =>
  0 ≤ (2 : Int) ∧ (2 : Int) < (x11.len : Nat) ∧ Nn x11.p fun a12 =>
  Ld w.drew (a12.add (((2 : Int)).toNat * 1)) (Value.int .i64) fun (x13 : Int) =>
  Nw w.drew (.cells #[.int .i64 x5, .int .i64 x13] 2) fun vw14 =>
  C132 (⟨some ⟨w.drew.heap.size, 0, none⟩, 2, 2⟩ : Slc) vw14 fun r15 r16 vw17 =>
    C193 r15 r16 vw17 (fun r18 vw19 =>
      Nn p1 fun a20 =>
      Ld vw19 (a20.add 6) Slc.v fun (x21 : Slc) =>
      0 ≤ (3 : Int) ∧ (3 : Int) < (x21.len : Nat) ∧ Nn x21.p fun a22 =>
      Ld vw19 (a22.add (((3 : Int)).toNat * 1)) (Value.int .i64) fun (x23 : Int) =>
      Nw vw19 (.cells #[.int .i64 x9, .int .i64 x23] 2) fun vw24 =>
      C132 (⟨some ⟨vw19.heap.size, 0, none⟩, 2, 2⟩ : Slc) vw24 fun r25 r26 vw27 =>
        C193 r25 r26 vw27 (fun r28 vw29 =>
          Lp (σ := Int) (S147L1 p1 x5 x9 r18 r28 R PR) 0 vw29) PR) PR
def pl147 : Plan := (.seq (.reg .still) (.seq (.reg .seq) (.seq (.reg .seq) (.seq (.seq (.reg .seq) (.block (.loop [(58, (.one (.int .i64)))] [0, 57] (.seq (.reg .seq) (.seq (.cond .leaf .leaf) (.seq (.block (.seq (.reg .seq) (.seq (.reg .seq) (.seq (.seq (.reg .seq) (.cond (.reg .seq) .leaf)) (.reg .seq))))) (.reg .seq))))))) (.reg .seq)))))
set_option maxRecDepth 100000 in
theorem T147 (p1 : Option Addr) (w : World) (R : World → Prop) (PR : Value → World → Prop) (h : S147 p1 w R PR) : C147 p1 w R PR := by
  have e : fnT Tryd.prog ⟨FF, MAY, PR⟩ pl147 Tryd.f147 [.pointer p1] w [] (fun _ w => R w) = S147 p1 w R PR := by kernel_rfl
  exact (fn_callsP okF okM Tryd.func147 (by kernel_rfl) (by kernel_rfl) (e.mpr h)).mono fun _ _ he => he.elim (fun ⟨_, he, hR⟩ => .inl ⟨he, hR⟩) .inr

/-- (*foliant/path.pen).draw -/
def S84 (p1 : Option Addr) (name2 : ByteArray) (w : World) (R : World → Prop) (PR : Value → World → Prop) : Prop :=
  Br (name2.toList == (⟨#[109]⟩ : ByteArray).toList) (C145 p1 w (fun r3 vw4 =>
      C144 p1 (1, 0, 0, 0, 0, r3.1, r3.2) vw4 fun vw5 =>
        R vw5) PR) (Br (name2.toList == (⟨#[108]⟩ : ByteArray).toList) (C145 p1 w (fun r6 vw7 =>
        C144 p1 (2, 0, 0, 0, 0, r6.1, r6.2) vw7 fun vw8 =>
          R vw8) PR) (Br (name2.toList == (⟨#[99]⟩ : ByteArray).toList) (C145 p1 w (fun r9 vw10 =>
          Nw vw10 (.cells #[.int .i64 0, .int .i64 0] 43) fun vw11 =>
          St vw11 (⟨vw10.heap.size, 0, none⟩ : Addr) (.int .i64 (r9.1)) fun vw12 =>
          St vw12 ((⟨vw10.heap.size, 0, none⟩ : Addr).add 1) (.int .i64 (r9.2)) fun vw13 =>
          C145 p1 vw13 (fun r14 vw15 =>
            Nw vw15 (.cells #[.int .i64 0, .int .i64 0] 43) fun vw16 =>
            St vw16 (⟨vw15.heap.size, 0, none⟩ : Addr) (.int .i64 (r14.1)) fun vw17 =>
            St vw17 ((⟨vw15.heap.size, 0, none⟩ : Addr).add 1) (.int .i64 (r14.2)) fun vw18 =>
            ∃ vS19 : World → Prop, vS19 vw18.drew ∧ LdS vS19 (⟨vw10.heap.size, 0, none⟩ : Addr) (Value.int .i64) fun (x20 : Int) =>
            LdS vS19 ((⟨vw10.heap.size, 0, none⟩ : Addr).add 1) (Value.int .i64) fun (x21 : Int) =>
            LdS vS19 (⟨vw15.heap.size, 0, none⟩ : Addr) (Value.int .i64) fun (x22 : Int) =>
            LdS vS19 ((⟨vw15.heap.size, 0, none⟩ : Addr).add 1) (Value.int .i64) fun (x23 : Int) =>
            C145 p1 vw18.drew (fun r24 vw25 =>
              vS19 vw25 ∧ C146 p1 (x20, x21) (x22, x23) (r24.1, r24.2) vw25 fun vw26 =>
                R vw26) PR) PR) PR) (Br (name2.toList == (⟨#[118]⟩ : ByteArray).toList) (C145 p1 w (fun r27 vw28 =>
            Nw vw28 (.cells #[.int .i64 0, .int .i64 0] 43) fun vw29 =>
            St vw29 (⟨vw28.heap.size, 0, none⟩ : Addr) (.int .i64 (r27.1)) fun vw30 =>
            St vw30 ((⟨vw28.heap.size, 0, none⟩ : Addr).add 1) (.int .i64 (r27.2)) fun vw31 =>
            ∃ vS32 : World → Prop, vS32 vw31.drew ∧ Nn p1 fun a33 =>
            LdS vS32 (a33.add 7) (Value.int .i64) fun (x34 : Int) =>
            LdS vS32 ((a33.add 7).add 1) (Value.int .i64) fun (x35 : Int) =>
            LdS vS32 (⟨vw28.heap.size, 0, none⟩ : Addr) (Value.int .i64) fun (x36 : Int) =>
            LdS vS32 ((⟨vw28.heap.size, 0, none⟩ : Addr).add 1) (Value.int .i64) fun (x37 : Int) =>
            C145 p1 vw31.drew (fun r38 vw39 =>
              vS32 vw39 ∧ C146 p1 (x34, x35) (x36, x37) (r38.1, r38.2) vw39 fun vw40 =>
                R vw40) PR) PR) (Br (name2.toList == (⟨#[121]⟩ : ByteArray).toList) (C145 p1 w (fun r41 vw42 =>
              Nw vw42 (.cells #[.int .i64 0, .int .i64 0] 43) fun vw43 =>
              St vw43 (⟨vw42.heap.size, 0, none⟩ : Addr) (.int .i64 (r41.1)) fun vw44 =>
              St vw44 ((⟨vw42.heap.size, 0, none⟩ : Addr).add 1) (.int .i64 (r41.2)) fun vw45 =>
              C145 p1 vw45 (fun r46 vw47 =>
                Nw vw47 (.cells #[.int .i64 0, .int .i64 0] 43) fun vw48 =>
                St vw48 (⟨vw47.heap.size, 0, none⟩ : Addr) (.int .i64 (r46.1)) fun vw49 =>
                St vw49 ((⟨vw47.heap.size, 0, none⟩ : Addr).add 1) (.int .i64 (r46.2)) fun vw50 =>
                Ld vw50 (⟨vw42.heap.size, 0, none⟩ : Addr) (Value.int .i64) fun (x51 : Int) =>
                Ld vw50 ((⟨vw42.heap.size, 0, none⟩ : Addr).add 1) (Value.int .i64) fun (x52 : Int) =>
                Ld vw50 (⟨vw47.heap.size, 0, none⟩ : Addr) (Value.int .i64) fun (x53 : Int) =>
                Ld vw50 ((⟨vw47.heap.size, 0, none⟩ : Addr).add 1) (Value.int .i64) fun (x54 : Int) =>
                Ld vw50 (⟨vw47.heap.size, 0, none⟩ : Addr) (Value.int .i64) fun (x55 : Int) =>
                Ld vw50 ((⟨vw47.heap.size, 0, none⟩ : Addr).add 1) (Value.int .i64) fun (x56 : Int) =>
                C146 p1 (x51, x52) (x53, x54) (x55, x56) vw50 fun vw57 =>
                  R vw57) PR) PR) (Br (name2.toList == (⟨#[104]⟩ : ByteArray).toList) (C144 p1 (4, 0, 0, 0, 0, 0, 0) w fun vw58 =>
                R vw58) (Br (name2.toList == (⟨#[114, 101]⟩ : ByteArray).toList) (C147 p1 w (fun vw59 =>
                  R vw59) PR) (R w)))))))
def pl84 : Plan := (.seq (.reg .seq) (.block (.seq (.reg .seq) (.cond (.reg .seq) (.seq (.reg .seq) (.cond (.reg .seq) (.seq (.reg .seq) (.cond (.seq (.reg .seq) (.seq (.reg .seq) (.reg (.held [5] (.take 0 (.take 1 (.take 2 (.take 3 (.eff 4 none (.eff 5 (some []) .done)))))))))) (.seq (.reg .seq) (.cond (.seq (.reg .seq) (.reg (.held [8] (.take 0 (.take 1 (.take 2 (.take 3 (.take 4 (.take 5 (.take 6 (.eff 7 none (.eff 8 (some []) .done)))))))))))) (.seq (.reg .seq) (.cond (.seq (.reg .seq) (.seq (.reg .seq) (.reg .seq))) (.seq (.reg .seq) (.cond (.reg .seq) (.seq (.reg .seq) (.cond (.reg .seq) .leaf))))))))))))))))
set_option maxRecDepth 100000 in
theorem T84 (p1 : Option Addr) (name2 : ByteArray) (w : World) (R : World → Prop) (PR : Value → World → Prop) (h : S84 p1 name2 w R PR) : C84 p1 name2 w R PR := by
  have e : fnT Tryd.prog ⟨FF, MAY, PR⟩ pl84 Tryd.f84 [.pointer p1, .string name2] w [] (fun _ w => R w) = S84 p1 name2 w R PR := by kernel_rfl
  exact (fn_callsP okF okM Tryd.func84 (by kernel_rfl) (by kernel_rfl) (e.mpr h)).mono fun _ _ he => he.elim (fun ⟨_, he, hR⟩ => .inl ⟨he, hR⟩) .inr

def S23P (vw5 : World) (R : Int → World → Prop) (x8 : Value) (vw7 : World) : Prop :=
  CD76 (⟨vw5.heap.size, 0, none⟩ : Addr) (some x8) vw7 fun vw9 =>
    Ld vw9 (⟨vw5.heap.size, 0, none⟩ : Addr) (Value.int .i64) fun (x10 : Int) =>
    R x10 vw9
def S23L1 (w : World) (x1 : Option Addr) (vw5 : World) (x100 : Slc) (R : Int → World → Prop) (I103 : Int → World → Prop) (s101 : Int) (vw102 : World) : Prop :=
  Br (decide (s101 < ((x100.len : Nat) : Int))) (0 ≤ s101 ∧ s101 < (x100.len : Nat) ∧ Nn x100.p fun a104 =>
    Ld vw102 (a104.add ((s101).toNat * 7)) (Value.int .i64) fun (x105 : Int) =>
    Ld vw102 ((a104.add ((s101).toNat * 7)).add 1) (Value.int .i64) fun (x106 : Int) =>
    Ld vw102 ((a104.add ((s101).toNat * 7)).add 2) (Value.int .i64) fun (x107 : Int) =>
    Ld vw102 ((a104.add ((s101).toNat * 7)).add 3) (Value.int .i64) fun (x108 : Int) =>
    Ld vw102 ((a104.add ((s101).toNat * 7)).add 4) (Value.int .i64) fun (x109 : Int) =>
    Ld vw102 ((a104.add ((s101).toNat * 7)).add 5) (Value.int .i64) fun (x110 : Int) =>
    Ld vw102 ((a104.add ((s101).toNat * 7)).add 6) (Value.int .i64) fun (x111 : Int) =>
    Nw vw102 (.cells #[.int .i64 0, .int .i64 0, .int .i64 0, .int .i64 0, .int .i64 0, .int .i64 0, .int .i64 0] 67) fun vw112 =>
    St vw112 (⟨vw102.heap.size, 0, none⟩ : Addr) (.int .i64 x105) fun vw113 =>
    St vw113 ((⟨vw102.heap.size, 0, none⟩ : Addr).add 1) (.int .i64 x106) fun vw114 =>
    St vw114 ((⟨vw102.heap.size, 0, none⟩ : Addr).add 2) (.int .i64 x107) fun vw115 =>
    St vw115 ((⟨vw102.heap.size, 0, none⟩ : Addr).add 3) (.int .i64 x108) fun vw116 =>
    St vw116 ((⟨vw102.heap.size, 0, none⟩ : Addr).add 4) (.int .i64 x109) fun vw117 =>
    St vw117 ((⟨vw102.heap.size, 0, none⟩ : Addr).add 5) (.int .i64 x110) fun vw118 =>
    St vw118 ((⟨vw102.heap.size, 0, none⟩ : Addr).add 6) (.int .i64 x111) fun vw119 =>
    Ld vw119 (⟨vw102.heap.size, 0, none⟩ : Addr) (Value.int .i64) fun (x120 : Int) =>
    Br (x120 == 1) (Ld vw119 ((⟨vw102.heap.size, 0, none⟩ : Addr).add 5) (Value.int .i64) fun (x121 : Int) =>
      Ld vw119 (((⟨vw102.heap.size, 0, none⟩ : Addr).add 5).add 1) (Value.int .i64) fun (x122 : Int) =>
      Nn x1 fun a123 =>
      St vw119 (a123.add 1) (.int .i64 x121) fun vw124 =>
      St vw124 ((a123.add 1).add 1) (.int .i64 x122) fun vw125 =>
      I103 (IntKind.i64.wrap (s101 + 1)) vw125) (I103 (IntKind.i64.wrap (s101 + 1)) vw119)) (Nn x1 fun a126 =>
    Ld vw102 (a126.add 3) Value.bool fun (x127 : Bool) =>
    Br x127 (Nn x1 fun a128 =>
      St vw102 (a128.add 3) (.bool true) fun vw129 =>
      St vw129 (⟨vw5.heap.size, 0, none⟩ : Addr) (.int .i64 0) fun vw130 =>
      CD76 (⟨vw5.heap.size, 0, none⟩ : Addr) none vw130 fun vw131 =>
        Ld vw131 (⟨vw5.heap.size, 0, none⟩ : Addr) (Value.int .i64) fun (x132 : Int) =>
        R x132 vw131) (Ld vw102 (⟨w.heap.size, 0, none⟩ : Addr) Value.string fun (x133 : ByteArray) =>
      0 ≤ (0 : Int) ∧ (0 : Int) < ((x133).size : Nat) ∧ Nn x1 fun a134 =>
      St vw102 (a134.add 3) (.bool ((bAt x133 0) == 87)) fun vw135 =>
      St vw135 (⟨vw5.heap.size, 0, none⟩ : Addr) (.int .i64 0) fun vw136 =>
      CD76 (⟨vw5.heap.size, 0, none⟩ : Addr) none vw136 fun vw137 =>
        Ld vw137 (⟨vw5.heap.size, 0, none⟩ : Addr) (Value.int .i64) fun (x138 : Int) =>
        R x138 vw137))
def S23J1 (w : World) (x1 : Option Addr) (vw5 : World) (vw26 : World) (R : Int → World → Prop) (s44 : Unit) (vw45 : World) : Prop :=
  Ld vw45 (⟨w.heap.size, 0, none⟩ : Addr) Value.string fun (x46 : ByteArray) =>
  Ld vw45 ((⟨w.heap.size, 0, none⟩ : Addr).add 1) Slc.v fun (x47 : Slc) =>
  Ld vw45 ((⟨w.heap.size, 0, none⟩ : Addr).add 2) Value.string fun (x48 : ByteArray) =>
  C83 (x46, x47, x48) vw45 fun r49 r50 vw51 =>
    C82 r49 r50 vw51 (fun r52 vw53 =>
      Nn (some (⟨vw26.heap.size, 0, none⟩ : Addr)) fun a54 =>
      St vw53 (a54.add 6) (Slc.v r52) fun vw55 =>
      Ld vw55 (⟨w.heap.size, 0, none⟩ : Addr) Value.string fun (x56 : ByteArray) =>
      C84 (some (⟨vw26.heap.size, 0, none⟩ : Addr)) x56 vw55 (fun vw57 =>
        Nn x1 fun a58 =>
        Ld vw57.drew a58 Slc.v fun (x59 : Slc) =>
        Nn (some (⟨vw26.heap.size, 0, none⟩ : Addr)) fun a60 =>
        Ld vw57.drew (a60.add 9) Slc.v fun (x61 : Slc) =>
        C77 (decide ((IntKind.i64.wrap (((x59.len : Nat) : Int) + ((x61.len : Nat) : Int))) ≤ 8192)) 6 vw57.drew (fun vw62 =>
          ∃ vS63 : World → Prop, vS63 vw62.drew ∧ Nn x1 fun a64 =>
          LdS vS63 a64 Slc.v fun (x65 : Slc) =>
          Nn (some (⟨vw26.heap.size, 0, none⟩ : Addr)) fun a66 =>
          LdS vS63 (a66.add 9) Slc.v fun (x67 : Slc) =>
          Rn Tryd.prog (Builtin.append_ #[64, 64] 64 #[Slc.v x65, Slc.v x67]) vw62.drew Slc.v fun (x68 : Slc) vw69 =>
          Nn x1 fun a70 =>
          St vw69 a70 (Slc.v x68) fun vw71 =>
          Nn (some (⟨vw26.heap.size, 0, none⟩ : Addr)) fun a99 =>
          Ld vw71 (a99.add 9) Slc.v fun (x100 : Slc) =>
          Lp (σ := Int) (S23L1 w x1 vw5 x100 R) 0 vw71) (S23P vw5 R)) (S23P vw5 R)) (S23P vw5 R)
/-- (*foliant/path.Path).Do -/
def S23 (x1 : Option Addr) (o2 : ByteArray × Slc × ByteArray) (m3 : Int × Int × Int × Int × Int × Int) (w : World) (R : Int → World → Prop) : Prop :=
  Nw w (.cells #[.string o2.1, Slc.v o2.2.1, .string o2.2.2] 63) fun vw4 =>
  Nw vw4 (.cells #[.int .i64 (m3.1), .int .i64 (m3.2.1), .int .i64 (m3.2.2.1), .int .i64 (m3.2.2.2.1), .int .i64 (m3.2.2.2.2.1), .int .i64 (m3.2.2.2.2.2)] 23) fun vw5 =>
  Nw vw5 (.cells #[.int .i64 0] 38) fun vw6 =>
  C77 (!(x1.isNone)) 1 vw6 (fun vw11 =>
    Ld vw11 (⟨w.heap.size, 0, none⟩ : Addr) Value.string fun (x12 : ByteArray) =>
    C78 x12 vw11 fun r13 vw14 =>
      C77 r13 8 vw14 (fun vw15 =>
        ∃ vS16 : World → Prop, vS16 vw15.drew ∧ LdS vS16 (⟨w.heap.size, 0, none⟩ : Addr) Value.string fun (x17 : ByteArray) =>
        LdS vS16 ((⟨w.heap.size, 0, none⟩ : Addr).add 1) Slc.v fun (x18 : Slc) =>
        LdS vS16 ((⟨w.heap.size, 0, none⟩ : Addr).add 2) Value.string fun (x19 : ByteArray) =>
        LdS vS16 (⟨w.heap.size, 0, none⟩ : Addr) Value.string fun (x20 : ByteArray) =>
        LdS vS16 ((⟨w.heap.size, 0, none⟩ : Addr).add 1) Slc.v fun (x21 : Slc) =>
        LdS vS16 ((⟨w.heap.size, 0, none⟩ : Addr).add 2) Value.string fun (x22 : ByteArray) =>
        C80 (x20, x21, x22) vw15.drew fun r23 vw24 =>
          vS16 vw24 ∧ C79 (x17, x18, x19) r23 vw24 (fun r25 vw26 =>
            Ld vw26 (⟨vw4.heap.size, 0, none⟩ : Addr) (Value.int .i64) fun (x27 : Int) =>
            Ld vw26 ((⟨vw4.heap.size, 0, none⟩ : Addr).add 1) (Value.int .i64) fun (x28 : Int) =>
            Ld vw26 ((⟨vw4.heap.size, 0, none⟩ : Addr).add 2) (Value.int .i64) fun (x29 : Int) =>
            Ld vw26 ((⟨vw4.heap.size, 0, none⟩ : Addr).add 3) (Value.int .i64) fun (x30 : Int) =>
            Ld vw26 ((⟨vw4.heap.size, 0, none⟩ : Addr).add 4) (Value.int .i64) fun (x31 : Int) =>
            Ld vw26 ((⟨vw4.heap.size, 0, none⟩ : Addr).add 5) (Value.int .i64) fun (x32 : Int) =>
            Nw vw26 (.cells #[.int .i64 x27, .int .i64 x28, .int .i64 x29, .int .i64 x30, .int .i64 x31, .int .i64 x32, Slc.v ((⟨none, 0, 0⟩ : Slc)), .int .i64 0, .int .i64 0, Slc.v ((⟨none, 0, 0⟩ : Slc))] 141) fun vw33 =>
            Join (S23J1 w x1 vw5 vw26 R) fun (vJ139 : Unit → World → Prop) =>
              Ld vw33 (⟨w.heap.size, 0, none⟩ : Addr) Value.string fun (x140 : ByteArray) =>
              Br (!(x140.toList == (⟨#[109]⟩ : ByteArray).toList)) (Ld vw33 (⟨w.heap.size, 0, none⟩ : Addr) Value.string fun (x141 : ByteArray) =>
                Br (!(x141.toList == (⟨#[114, 101]⟩ : ByteArray).toList)) (Nn x1 fun a142 =>
                  Ld vw33 a142 Slc.v fun (x143 : Slc) =>
                  C77 (decide (((x143.len : Nat) : Int) > 0)) 29 vw33 (fun vw144 =>
                    C81 x1 vw144 fun r145 vw146 =>
                      Nn (some (⟨vw26.heap.size, 0, none⟩ : Addr)) fun a147 =>
                      St vw146 (a147.add 7) (.int .i64 (r145.1)) fun vw148 =>
                      St vw148 ((a147.add 7).add 1) (.int .i64 (r145.2)) fun vw149 =>
                      vJ139 () vw149) (S23P vw5 R)) (vJ139 () vw33)) (vJ139 () vw33)) (S23P vw5 R)) (S23P vw5 R)) (S23P vw5 R)
def pl23 : DPlan := (.pre (.reg .seq) (.here [6] (.seq (.reg .seq) (.seq (.reg .seq) (.seq (.reg (.held [3] (.take 0 (.take 1 (.eff 2 none (.eff 3 (some []) .done)))))) (.seq (.reg .seq) (.join [] [0, 4, 6, 7] (.seq (.reg .seq) (.cond (.seq (.reg .seq) (.reg .seq)) .leaf)) (.seq (.reg .seq) (.seq (.reg .seq) (.seq (.reg (.tail 12)) (.seq (.reg (.held [9] (.take 0 (.take 1 (.take 2 (.take 3 (.take 4 (.take 5 (.take 6 (.take 7 (.take 8 (.eff 9 (some [12]) (.take 10 (.take 11 (.eff 12 (some []) .done))))))))))))))) (.seq (.seq (.reg .seq) (.block (.loop [(87, (.one (.int .i64)))] [0, 4, 6, 85, 86] (.seq (.reg .seq) (.seq (.cond .leaf .leaf) (.seq (.block (.seq (.reg .seq) (.seq (.reg .seq) (.cond (.reg .seq) .leaf)))) (.reg .seq))))))) (.seq (.reg .seq) (.seq (.reg .seq) .leaf))))))))))))))
set_option maxRecDepth 100000 in
theorem T23 (x1 : Option Addr) (o2 : ByteArray × Slc × ByteArray) (m3 : Int × Int × Int × Int × Int × Int) (w : World) (R : Int → World → Prop) (h : S23 x1 o2 m3 w R) : C23 x1 (o2.1, o2.2.1, o2.2.2) (m3.1, m3.2.1, m3.2.2.1, m3.2.2.2.1, m3.2.2.2.2.1, m3.2.2.2.2.2) w R := by
  have e : fnTD Tryd.prog FF MAY (fun _ _ => False) pl23 Tryd.f23 [.pointer x1, .agg #[.string o2.1, Slc.v o2.2.1, .string o2.2.2], .agg #[.int .i64 (m3.1), .int .i64 (m3.2.1), .int .i64 (m3.2.2.1), .int .i64 (m3.2.2.2.1), .int .i64 (m3.2.2.2.2.1), .int .i64 (m3.2.2.2.2.2)]] w [(.one (.int .i64))] (fun s w => R s w) = S23 x1 o2 m3 w R := by kernel_rfl
  exact (fnD_calls okF okM Tryd.func23 (by kernel_rfl) (by kernel_rfl) (e.mpr h)).mono fun _ _ ⟨s, he, hR⟩ => ⟨s, he, hR⟩

/-- slices.Clone[[]foliant/api.Seg,foliant/api.Seg] -/
def S86 (s1 : Slc) (w : World) (R : Slc → World → Prop) : Prop :=
  Br s1.p.isNone (R (⟨none, 0, 0⟩ : Slc) w) (Nw w (.cells #[] 67) fun vw2 =>
    Rn Tryd.prog (Builtin.append_ #[64, 64] 64 #[Slc.v ((⟨some ⟨w.heap.size, 0, none⟩, 0, 0⟩ : Slc)), Slc.v s1]) vw2 Slc.v fun (x3 : Slc) vw4 =>
    R x3 vw4)
def pl86 : Plan := (.seq (.reg .seq) (.seq (.seq (.reg .seq) (.cond (.seq (.reg .seq) .leaf) .leaf)) (.seq (.reg .seq) .leaf)))
set_option maxRecDepth 100000 in
theorem T86 (s1 : Slc) (w : World) (R : Slc → World → Prop) (h : S86 s1 w R) : C86 s1 w R := by
  have e : fnT Tryd.prog ⟨FF, MAY, (fun _ _ => False)⟩ pl86 Tryd.f86 [Slc.v s1] w [(.one .slc)] (fun s w => R s w) = S86 s1 w R := by kernel_rfl
  exact (fn_calls okF okM Tryd.func86 (by kernel_rfl) (by kernel_rfl) (e.mpr h)).mono fun _ _ ⟨s, he, hR⟩ => ⟨s, he, hR⟩

/-- (*foliant/path.Path).Segs -/
def S25 (x1 : Option Addr) (w : World) (R : Slc → World → Prop) : Prop :=
  Br x1.isNone (R (⟨none, 0, 0⟩ : Slc) w) (Nn x1 fun a2 =>
    Ld w a2 Slc.v fun (x3 : Slc) =>
    C86 x3 w fun r4 vw5 =>
      R r4 vw5)
def pl25 : Plan := (.seq (.reg .seq) (.seq (.seq (.reg .seq) (.cond (.seq (.reg .seq) .leaf) .leaf)) (.seq (.reg .seq) .leaf)))
set_option maxRecDepth 100000 in
theorem T25 (x1 : Option Addr) (w : World) (R : Slc → World → Prop) (h : S25 x1 w R) : C25 x1 w R := by
  have e : fnT Tryd.prog ⟨FF, MAY, (fun _ _ => False)⟩ pl25 Tryd.f25 [.pointer x1] w [(.one .slc)] (fun s w => R s w) = S25 x1 w R := by kernel_rfl
  exact (fn_calls okF okM Tryd.func25 (by kernel_rfl) (by kernel_rfl) (e.mpr h)).mono fun _ _ ⟨s, he, hR⟩ => ⟨s, he, hR⟩

def S88L1 (s11 : Slc) (s22 : Slc) (R : Bool → World → Prop) (I5 : Int → World → Prop) (s3 : Int) (vw4 : World) : Prop :=
  Br (decide (s3 < ((s11.len : Nat) : Int))) (0 ≤ s3 ∧ s3 < (s11.len : Nat) ∧ Nn s11.p fun a6 =>
    Ld vw4.drew (a6.add ((s3).toNat * 7)) (Value.int .i64) fun (x7 : Int) =>
    Ld vw4.drew ((a6.add ((s3).toNat * 7)).add 1) (Value.int .i64) fun (x8 : Int) =>
    Ld vw4.drew ((a6.add ((s3).toNat * 7)).add 2) (Value.int .i64) fun (x9 : Int) =>
    Ld vw4.drew ((a6.add ((s3).toNat * 7)).add 3) (Value.int .i64) fun (x10 : Int) =>
    Ld vw4.drew ((a6.add ((s3).toNat * 7)).add 4) (Value.int .i64) fun (x11 : Int) =>
    Ld vw4.drew ((a6.add ((s3).toNat * 7)).add 5) (Value.int .i64) fun (x12 : Int) =>
    Ld vw4.drew ((a6.add ((s3).toNat * 7)).add 6) (Value.int .i64) fun (x13 : Int) =>
    0 ≤ s3 ∧ s3 < (s22.len : Nat) ∧ Nn s22.p fun a14 =>
    Ld vw4.drew (a14.add ((s3).toNat * 7)) (Value.int .i64) fun (x15 : Int) =>
    Ld vw4.drew ((a14.add ((s3).toNat * 7)).add 1) (Value.int .i64) fun (x16 : Int) =>
    Ld vw4.drew ((a14.add ((s3).toNat * 7)).add 2) (Value.int .i64) fun (x17 : Int) =>
    Ld vw4.drew ((a14.add ((s3).toNat * 7)).add 3) (Value.int .i64) fun (x18 : Int) =>
    Ld vw4.drew ((a14.add ((s3).toNat * 7)).add 4) (Value.int .i64) fun (x19 : Int) =>
    Ld vw4.drew ((a14.add ((s3).toNat * 7)).add 5) (Value.int .i64) fun (x20 : Int) =>
    Ld vw4.drew ((a14.add ((s3).toNat * 7)).add 6) (Value.int .i64) fun (x21 : Int) =>
    Lt (!((x7 == x15) && (((x8 == x16) && ((x9 == x17) && true)) && (((x10 == x18) && ((x11 == x19) && true)) && (((x12 == x20) && ((x13 == x21) && true)) && true))))) fun (x22 : Bool) =>
    Br x22 (R false vw4.drew) (I5 (IntKind.i64.wrap (s3 + 1)) vw4.drew)) (R true vw4)
/-- slices.Equal[[]foliant/api.Seg,foliant/api.Seg] -/
def S88 (s11 : Slc) (s22 : Slc) (w : World) (R : Bool → World → Prop) : Prop :=
  Br (((s11.len : Nat) : Int) != ((s22.len : Nat) : Int)) (R false w) (Lp (σ := Int) (S88L1 s11 s22 R) 0 w)
def pl88 : Plan := (.seq (.reg .seq) (.seq (.seq (.reg .seq) (.cond (.seq (.reg .seq) .leaf) .leaf)) (.seq (.seq (.reg .seq) (.block (.loop [(13, (.one (.int .i64)))] [0, 1, 12] (.seq (.reg .seq) (.seq (.cond .leaf .leaf) (.seq (.block (.seq (.reg .seq) (.seq (.reg .still) (.cond (.seq (.reg .seq) .leaf) .leaf)))) (.reg .seq))))))) (.seq (.reg .seq) .leaf))))
set_option maxRecDepth 100000 in
theorem T88 (s11 : Slc) (s22 : Slc) (w : World) (R : Bool → World → Prop) (h : S88 s11 s22 w R) : C88 s11 s22 w R := by
  have e : fnT Tryd.prog ⟨FF, MAY, (fun _ _ => False)⟩ pl88 Tryd.f88 [Slc.v s11, Slc.v s22] w [(.one .bool)] (fun s w => R s w) = S88 s11 s22 w R := by kernel_rfl
  exact (fn_calls okF okM Tryd.func88 (by kernel_rfl) (by kernel_rfl) (e.mpr h)).mono fun _ _ ⟨s, he, hR⟩ => ⟨s, he, hR⟩

/-- foliant/path.Same -/
def S28 (a1 : Slc) (b2 : Slc) (w : World) (R : Bool → World → Prop) : Prop :=
  C88 a1 b2 w fun r3 vw4 =>
    R r3 vw4
def pl28 : Plan := (.seq (.reg .seq) (.seq (.reg .seq) .leaf))
set_option maxRecDepth 100000 in
theorem T28 (a1 : Slc) (b2 : Slc) (w : World) (R : Bool → World → Prop) (h : S28 a1 b2 w R) : C28 a1 b2 w R := by
  have e : fnT Tryd.prog ⟨FF, MAY, (fun _ _ => False)⟩ pl28 Tryd.f28 [Slc.v a1, Slc.v b2] w [(.one .bool)] (fun s w => R s w) = S28 a1 b2 w R := by kernel_rfl
  exact (fn_calls okF okM Tryd.func28 (by kernel_rfl) (by kernel_rfl) (e.mpr h)).mono fun _ _ ⟨s, he, hR⟩ => ⟨s, he, hR⟩

end Go.Proofs.YtjbeembbnkmpeaaDoor
