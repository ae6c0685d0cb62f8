/- The formulas of 16 functions of the program, written by program (gen.py); the kernel checks each. No condition. -/
import Derived.Test.YtcblpehnkogfdaaGreatDoorFn
namespace Go.Proofs.YtcblpehnkogfdaaGreatDoor
open Sh
set_option linter.unusedVariables false
set_option maxRecDepth 100000

def CD101 (n1 : Option Addr) (ve2 : Option Addr) (u : Option Value) (w : World) (R : World → Prop) : Prop := CallD Tryz.prog 101 #[.pointer n1, .pointer ve2] u w R
theorem CD101.mono {n1 : Option Addr} {ve2 : Option Addr} {u : Option Value} {w : World} {R R' : World → Prop} (h : CD101 n1 ve2 u w R) (hr : ∀ w', R w' → R' w') : CD101 n1 ve2 u w R' :=
  CallsD.mono h fun _ _ _ ⟨h1, h2, h3⟩ => ⟨h1, h2, hr _ h3⟩
def C126 (n1 : Int) (w : World) (R : Bool → World → Prop) : Prop :=
  Calls Tryz.prog 126 #[.int .i64 n1] w fun e w' => ∃ r0 : Bool, e = .returned (.bool r0) ∧ R r0 w'
theorem C126.mono {n1 : Int} {w : World} {R R' : Bool → World → Prop} (h : C126 n1 w R) (hr : ∀ r0 w', R r0 w' → R' r0 w') : C126 n1 w R' :=
  Calls.mono h fun _ _ ⟨r0, he, hR⟩ => ⟨r0, he, hr _ _ hR⟩
def C102 (l1 : Slc) (w : World) (R : World → Prop) (PR : Value → World → Prop) : Prop :=
  Calls Tryz.prog 102 #[Slc.v l1] w fun e w' => (e = .returned (.tuple #[]) ∧ R w') ∨ ∃ v, e = .panicked (onePanic v) ∧ PR v w'
theorem C102.mono {l1 : Slc} {w : World} {R R' : World → Prop} {PR PR' : Value → World → Prop} (h : C102 l1 w R PR) (hr : ∀ w', R w' → R' w') (hp : ∀ v w', PR v w' → PR' v w') : C102 l1 w R' PR' :=
  Calls.mono h fun _ _ he => he.elim (fun ⟨he, hR⟩ => .inl ⟨he, hr _ hR⟩) fun ⟨v, he, hP⟩ => .inr ⟨v, he, hp _ _ hP⟩
def C103 (n1 : Int) (w : World) (R : Int → World → Prop) (PR : Value → World → Prop) : Prop :=
  Calls Tryz.prog 103 #[.int .i64 n1] w fun e w' => (∃ r0 : Int, e = .returned (.int .i64 r0) ∧ R r0 w') ∨ ∃ v, e = .panicked (onePanic v) ∧ PR v w'
theorem C103.mono {n1 : Int} {w : World} {R R' : Int → World → Prop} {PR PR' : Value → World → Prop} (h : C103 n1 w R PR) (hr : ∀ r0 w', R r0 w' → R' r0 w') (hp : ∀ v w', PR v w' → PR' v w') : C103 n1 w R' PR' :=
  Calls.mono h fun _ _ he => he.elim (fun ⟨r0, he, hR⟩ => .inl ⟨r0, he, hr _ _ hR⟩) fun ⟨v, he, hP⟩ => .inr ⟨v, he, hp _ _ hP⟩
def C104 (n1 : Int) (vby2 : Int) (w : World) (R : Int → World → Prop) : Prop :=
  Calls Tryz.prog 104 #[.int .i64 n1, .int .i64 vby2] w fun e w' => ∃ r0 : Int, e = .returned (.int .i64 r0) ∧ R r0 w'
theorem C104.mono {n1 : Int} {vby2 : Int} {w : World} {R R' : Int → World → Prop} (h : C104 n1 vby2 w R) (hr : ∀ r0 w', R r0 w' → R' r0 w') : C104 n1 vby2 w R' :=
  Calls.mono h fun _ _ ⟨r0, he, hR⟩ => ⟨r0, he, hr _ _ hR⟩
def C147 (l1 : Slc) (w : World) (R : Int → Int → World → Prop) : Prop :=
  Calls Tryz.prog 147 #[Slc.v l1] w fun e w' => ∃ r0 : Int, ∃ r1 : Int, e = .returned (.tuple #[.int .i64 r0, .int .i64 r1]) ∧ R r0 r1 w'
theorem C147.mono {l1 : Slc} {w : World} {R R' : Int → Int → World → Prop} (h : C147 l1 w R) (hr : ∀ r0 r1 w', R r0 r1 w' → R' r0 r1 w') : C147 l1 w R' :=
  Calls.mono h fun _ _ ⟨r0, r1, he, hR⟩ => ⟨r0, r1, he, hr _ _ _ hR⟩
def C63 (l1 : Slc) (w : World) (R : Int → Int → World → Prop) : Prop :=
  Calls Tryz.prog 63 #[Slc.v l1] w fun e w' => ∃ r0 : Int, ∃ r1 : Int, e = .returned (.tuple #[.int .i64 r0, .int .i64 r1]) ∧ R r0 r1 w'
theorem C63.mono {l1 : Slc} {w : World} {R R' : Int → Int → World → Prop} (h : C63 l1 w R) (hr : ∀ r0 r1 w', R r0 r1 w' → R' r0 r1 w') : C63 l1 w R' :=
  Calls.mono h fun _ _ ⟨r0, r1, he, hR⟩ => ⟨r0, r1, he, hr _ _ _ hR⟩
def C64 (a1 : Int) (b2 : Int) (w : World) (R : Int → Int → World → Prop) : Prop :=
  Calls Tryz.prog 64 #[.int .i64 a1, .int .i64 b2] w fun e w' => ∃ r0 : Int, ∃ r1 : Int, e = .returned (.tuple #[.int .i64 r0, .int .i64 r1]) ∧ R r0 r1 w'
theorem C64.mono {a1 : Int} {b2 : Int} {w : World} {R R' : Int → Int → World → Prop} (h : C64 a1 b2 w R) (hr : ∀ r0 r1 w', R r0 r1 w' → R' r0 r1 w') : C64 a1 b2 w R' :=
  Calls.mono h fun _ _ ⟨r0, r1, he, hR⟩ => ⟨r0, r1, he, hr _ _ _ hR⟩
def C100 (n1 : Int) (vby2 : Int) (w : World) (R : Int → Int → World → Prop) : Prop :=
  Calls Tryz.prog 100 #[.int .i64 n1, .int .i64 vby2] w fun e w' => ∃ r0 : Int, ∃ r1 : Int, e = .returned (.tuple #[.int .i64 r0, .int .i64 r1]) ∧ R r0 r1 w'
theorem C100.mono {n1 : Int} {vby2 : Int} {w : World} {R R' : Int → Int → World → Prop} (h : C100 n1 vby2 w R) (hr : ∀ r0 r1 w', R r0 r1 w' → R' r0 r1 w') : C100 n1 vby2 w R' :=
  Calls.mono h fun _ _ ⟨r0, r1, he, hR⟩ => ⟨r0, r1, he, hr _ _ _ hR⟩
def C109 (n1 : Int) (w : World) (R : Bool → World → Prop) : Prop :=
  Calls Tryz.prog 109 #[.int .i64 n1] w fun e w' => ∃ r0 : Bool, e = .returned (.bool r0) ∧ R r0 w'
theorem C109.mono {n1 : Int} {w : World} {R R' : Bool → World → Prop} (h : C109 n1 w R) (hr : ∀ r0 w', R r0 w' → R' r0 w') : C109 n1 w R' :=
  Calls.mono h fun _ _ ⟨r0, he, hR⟩ => ⟨r0, he, hr _ _ hR⟩
def C110 (n1 : Int) (w : World) (R : Int → Int → World → Prop) : Prop :=
  Calls Tryz.prog 110 #[.int .i64 n1] w fun e w' => ∃ r0 : Int, ∃ r1 : Int, e = .returned (.tuple #[.int .i64 r0, .int .i64 r1]) ∧ R r0 r1 w'
theorem C110.mono {n1 : Int} {w : World} {R R' : Int → Int → World → Prop} (h : C110 n1 w R) (hr : ∀ r0 r1 w', R r0 r1 w' → R' r0 r1 w') : C110 n1 w R' :=
  Calls.mono h fun _ _ ⟨r0, r1, he, hR⟩ => ⟨r0, r1, he, hr _ _ _ hR⟩
def C128 (n1 : Int) (vby2 : Int) (w : World) (R : Int → World → Prop) : Prop :=
  Calls Tryz.prog 128 #[.int .i64 n1, .int .i64 vby2] w fun e w' => ∃ r0 : Int, e = .returned (.int .i64 r0) ∧ R r0 w'
theorem C128.mono {n1 : Int} {vby2 : Int} {w : World} {R R' : Int → World → Prop} (h : C128 n1 vby2 w R) (hr : ∀ r0 w', R r0 w' → R' r0 w') : C128 n1 vby2 w R' :=
  Calls.mono h fun _ _ ⟨r0, he, hR⟩ => ⟨r0, he, hr _ _ hR⟩
def C117 (l1 : Slc) (w : World) (R : Int → Int → World → Prop) : Prop :=
  Calls Tryz.prog 117 #[Slc.v l1] w fun e w' => ∃ r0 : Int, ∃ r1 : Int, e = .returned (.tuple #[.int .i64 r0, .int .i64 r1]) ∧ R r0 r1 w'
theorem C117.mono {l1 : Slc} {w : World} {R R' : Int → Int → World → Prop} (h : C117 l1 w R) (hr : ∀ r0 r1 w', R r0 r1 w' → R' r0 r1 w') : C117 l1 w R' :=
  Calls.mono h fun _ _ ⟨r0, r1, he, hR⟩ => ⟨r0, r1, he, hr _ _ _ hR⟩
def C70 (l1 : Slc) (w : World) (R : Int → Int → World → Prop) : Prop :=
  Calls Tryz.prog 70 #[Slc.v l1] w fun e w' => ∃ r0 : Int, ∃ r1 : Int, e = .returned (.tuple #[.int .i64 r0, .int .i64 r1]) ∧ R r0 r1 w'
theorem C70.mono {l1 : Slc} {w : World} {R R' : Int → Int → World → Prop} (h : C70 l1 w R) (hr : ∀ r0 r1 w', R r0 r1 w' → R' r0 r1 w') : C70 l1 w R' :=
  Calls.mono h fun _ _ ⟨r0, r1, he, hR⟩ => ⟨r0, r1, he, hr _ _ _ hR⟩
def C107 (a1 : Int) (b2 : Int) (w : World) (R : Int → Int → World → Prop) : Prop :=
  Calls Tryz.prog 107 #[.int .i64 a1, .int .i64 b2] w fun e w' => ∃ r0 : Int, ∃ r1 : Int, e = .returned (.tuple #[.int .i64 r0, .int .i64 r1]) ∧ R r0 r1 w'
theorem C107.mono {a1 : Int} {b2 : Int} {w : World} {R R' : Int → Int → World → Prop} (h : C107 a1 b2 w R) (hr : ∀ r0 r1 w', R r0 r1 w' → R' r0 r1 w') : C107 a1 b2 w R' :=
  Calls.mono h fun _ _ ⟨r0, r1, he, hR⟩ => ⟨r0, r1, he, hr _ _ _ hR⟩
def C111 (n1 : Int) (vby2 : Int) (w : World) (R : Int → Int → World → Prop) : Prop :=
  Calls Tryz.prog 111 #[.int .i64 n1, .int .i64 vby2] w fun e w' => ∃ r0 : Int, ∃ r1 : Int, e = .returned (.tuple #[.int .i64 r0, .int .i64 r1]) ∧ R r0 r1 w'
theorem C111.mono {n1 : Int} {vby2 : Int} {w : World} {R R' : Int → Int → World → Prop} (h : C111 n1 vby2 w R) (hr : ∀ r0 r1 w', R r0 r1 w' → R' r0 r1 w') : C111 n1 vby2 w R' :=
  Calls.mono h fun _ _ ⟨r0, r1, he, hR⟩ => ⟨r0, r1, he, hr _ _ _ hR⟩

/-- foliant/fix.face -/
def S101_nil (n1 : Option Addr) (ve2 : Option Addr) (w : World) (R : World → Prop) : Prop :=
  R w
def pl101_nil : Plan := (.block (.seq (.reg .seq) (.cond (.reg .seq) (.seq (.reg .seq) (.cond (.seq (.reg .seq) (.reg .seq)) (.seq (.reg .seq) (.reg .seq)))))))
set_option maxRecDepth 100000 in
theorem T101_nil (n1 : Option Addr) (ve2 : Option Addr) (w : World) (R : World → Prop) (h : S101_nil n1 ve2 w R) : CD101 n1 ve2 none w R := by
  have e : fnTS Tryz.prog FF MAY pl101_nil Tryz.f101 [.pointer n1, .pointer ve2] none w R = S101_nil n1 ve2 w R := by kernel_rfl
  exact fnS_calls okF okM Tryz.func101 (by kernel_rfl) (by kernel_rfl) (e.mpr h)

/-- foliant/fix.face -/
def S101_T170 (n1 : Option Addr) (ve2 : Option Addr) (u3 : Int) (w : World) (R : World → Prop) : Prop :=
  Nn n1 fun a4 =>
  St w a4 (.int .i64 0) fun vw5 =>
  Nn ve2 fun a6 =>
  St vw5 a6 (.int .i64 u3) fun vw7 =>
  R vw7
def pl101_T170 : Plan := (.block (.seq (.reg .seq) (.cond (.reg .seq) (.seq (.reg .seq) (.cond (.seq (.reg .seq) (.reg .seq)) (.seq (.reg .seq) (.reg .seq)))))))
set_option maxRecDepth 100000 in
theorem T101_T170 (n1 : Option Addr) (ve2 : Option Addr) (u3 : Int) (w : World) (R : World → Prop) (h : S101_T170 n1 ve2 u3 w R) : CD101 n1 ve2 (some (.iface 170 (.int .i64 u3))) w R := by
  have e : fnTS Tryz.prog FF MAY pl101_T170 Tryz.f101 [.pointer n1, .pointer ve2] (some (.iface 170 (.int .i64 u3))) w R = S101_T170 n1 ve2 u3 w R := by kernel_rfl
  exact fnS_calls okF okM Tryz.func101 (by kernel_rfl) (by kernel_rfl) (e.mpr h)

/-- foliant/fix.within -/
def S126 (n1 : Int) (w : World) (R : Bool → World → Prop) : Prop :=
  Br (decide (n1 ≥ (-1073741824))) (R (decide (n1 ≤ 1073741824)) w) (R false w)
def pl126 : Plan := (.seq (.reg .seq) (.seq (.reg .seq) .leaf))
set_option maxRecDepth 100000 in
theorem T126 (n1 : Int) (w : World) (R : Bool → World → Prop) (h : S126 n1 w R) : C126 n1 w R := by
  have e : fnT Tryz.prog ⟨FF, MAY, (fun _ _ => False)⟩ pl126 Tryz.f126 [.int .i64 n1] w [(.one .bool)] (fun s w => R s w) = S126 n1 w R := by kernel_rfl
  exact (fn_calls okF okM Tryz.func126 (by kernel_rfl) (by kernel_rfl) (e.mpr h)).mono fun _ _ ⟨s, he, hR⟩ => ⟨s, he, hR⟩

def S102L1 (l1 : Slc) (R : World → Prop) (PR : Value → World → Prop) (I4 : Int → World → Prop) (s2 : Int) (vw3 : World) : Prop :=
  Br (decide (s2 < ((l1.len : Nat) : Int))) (0 ≤ s2 ∧ s2 < (l1.len : Nat) ∧ Nn l1.p fun a5 =>
    Ld vw3 (a5.add ((s2).toNat * 1)) (Value.int .i64) fun (x6 : Int) =>
    C126 x6 vw3 fun r7 vw8 =>
      Br (!r7) (PR (.iface 170 (.int .i64 2)) vw8) (I4 (IntKind.i64.wrap (s2 + 1)) vw8)) (R vw3)
/-- foliant/fix.bounded -/
def S102 (l1 : Slc) (w : World) (R : World → Prop) (PR : Value → World → Prop) : Prop :=
  Lp (σ := Int) (S102L1 l1 R PR) 0 w
def pl102 : Plan := (.seq (.reg .seq) (.block (.loop [(6, (.one (.int .i64)))] [4, 5] (.seq (.reg .seq) (.seq (.cond .leaf .leaf) (.seq (.block (.seq (.reg .seq) (.seq (.reg .seq) (.cond (.reg .seq) .leaf)))) (.reg .seq)))))))
set_option maxRecDepth 100000 in
theorem T102 (l1 : Slc) (w : World) (R : World → Prop) (PR : Value → World → Prop) (h : S102 l1 w R PR) : C102 l1 w R PR := by
  have e : fnT Tryz.prog ⟨FF, MAY, PR⟩ pl102 Tryz.f102 [Slc.v l1] w [] (fun _ w => R w) = S102 l1 w R PR := by kernel_rfl
  exact (fn_callsP okF okM Tryz.func102 (by kernel_rfl) (by kernel_rfl) (e.mpr h)).mono fun _ _ he => he.elim (fun ⟨_, he, hR⟩ => .inl ⟨he, hR⟩) .inr

/-- foliant/fix.answer -/
def S103 (n1 : Int) (w : World) (R : Int → World → Prop) (PR : Value → World → Prop) : Prop :=
  Nw w (.cells #[.int .i64 n1] 2) fun vw2 =>
  C102 (⟨some ⟨w.heap.size, 0, none⟩, 1, 1⟩ : Slc) vw2 (fun vw3 =>
    R n1 vw3) PR
def pl103 : Plan := (.seq (.reg .seq) (.seq (.reg .seq) (.seq (.reg .seq) .leaf)))
set_option maxRecDepth 100000 in
theorem T103 (n1 : Int) (w : World) (R : Int → World → Prop) (PR : Value → World → Prop) (h : S103 n1 w R PR) : C103 n1 w R PR := by
  have e : fnT Tryz.prog ⟨FF, MAY, PR⟩ pl103 Tryz.f103 [.int .i64 n1] w [(.one (.int .i64))] (fun s w => R s w) = S103 n1 w R PR := by kernel_rfl
  exact (fn_callsP okF okM Tryz.func103 (by kernel_rfl) (by kernel_rfl) (e.mpr h)).mono fun _ _ he => he.elim (fun ⟨s, he, hR⟩ => .inl ⟨s, he, hR⟩) .inr

/-- foliant/fix.nearest -/
def S104 (n1 : Int) (vby2 : Int) (w : World) (R : Int → World → Prop) : Prop :=
  vby2 ≠ 0 ∧ vby2 ≠ 0 ∧ Br (decide ((Int.tmod n1 vby2) < 0)) (Lt (decide ((IntKind.i64.wrap ((Int.tmod n1 vby2) + vby2)) ≥ (IntKind.i64.wrap (vby2 - (IntKind.i64.wrap ((Int.tmod n1 vby2) + vby2)))))) fun (x3 : Bool) =>
    Br x3 (R (IntKind.i64.wrap ((IntKind.i64.wrap ((IntKind.i64.wrap (Int.tdiv n1 vby2)) - 1)) + 1)) w.drew) (R (IntKind.i64.wrap ((IntKind.i64.wrap (Int.tdiv n1 vby2)) - 1)) w.drew)) (Br (decide ((Int.tmod n1 vby2) ≥ (IntKind.i64.wrap (vby2 - (Int.tmod n1 vby2))))) (R (IntKind.i64.wrap ((IntKind.i64.wrap (Int.tdiv n1 vby2)) + 1)) w.drew) (R (IntKind.i64.wrap (Int.tdiv n1 vby2)) w.drew))
def pl104 : Plan := (.seq (.reg .seq) (.seq (.reg .still) (.seq (.seq (.reg .seq) (.cond (.reg .seq) .leaf)) (.seq (.seq (.reg .seq) (.cond (.reg .seq) .leaf)) (.seq (.reg .seq) .leaf)))))
set_option maxRecDepth 100000 in
theorem T104 (n1 : Int) (vby2 : Int) (w : World) (R : Int → World → Prop) (h : S104 n1 vby2 w R) : C104 n1 vby2 w R := by
  have e : fnT Tryz.prog ⟨FF, MAY, (fun _ _ => False)⟩ pl104 Tryz.f104 [.int .i64 n1, .int .i64 vby2] w [(.one (.int .i64))] (fun s w => R s w) = S104 n1 vby2 w R := by kernel_rfl
  exact (fn_calls okF okM Tryz.func104 (by kernel_rfl) (by kernel_rfl) (e.mpr h)).mono fun _ _ ⟨s, he, hR⟩ => ⟨s, he, hR⟩

def S147P (w : World) (vw2 : World) (R : Int → Int → World → Prop) (x5 : Value) (vw4 : World) : Prop :=
  CD101 (some (⟨w.heap.size, 0, none⟩ : Addr)) (some (⟨vw2.heap.size, 0, none⟩ : Addr)) (some x5) vw4 fun vw6 =>
    Ld vw6 (⟨w.heap.size, 0, none⟩ : Addr) (Value.int .i64) fun (x7 : Int) =>
    Ld vw6 (⟨vw2.heap.size, 0, none⟩ : Addr) (Value.int .i64) fun (x8 : Int) =>
    R x7 x8 vw6
def S147L1 (w : World) (l1 : Slc) (vw2 : World) (R : Int → Int → World → Prop) (I35 : Int → World → Prop) (s33 : Int) (vw34 : World) : Prop :=
  Br (decide (s33 < ((l1.len : Nat) : Int))) (Ld vw34.drew (⟨w.heap.size, 0, none⟩ : Addr) (Value.int .i64) fun (x36 : Int) =>
    0 ≤ s33 ∧ s33 < (l1.len : Nat) ∧ Nn l1.p fun a37 =>
    Ld vw34.drew (a37.add ((s33).toNat * 1)) (Value.int .i64) fun (x38 : Int) =>
    0 ≤ (IntKind.i64.wrap (s33 + 1)) ∧ (IntKind.i64.wrap (s33 + 1)) < (l1.len : Nat) ∧ Nn l1.p fun a39 =>
    Ld vw34.drew (a39.add ((IntKind.i64.wrap (s33 + 1)).toNat * 1)) (Value.int .i64) fun (x40 : Int) =>
    St vw34.drew (⟨w.heap.size, 0, none⟩ : Addr) (.int .i64 (IntKind.i64.wrap (x36 + (IntKind.i64.wrap (x38 * x40))))) fun vw41 =>
    I35 (IntKind.i64.wrap (s33 + 2)) vw41) (Ld vw34 (⟨w.heap.size, 0, none⟩ : Addr) (Value.int .i64) fun (x42 : Int) =>
    C104 x42 10000 vw34 fun r43 vw44 =>
      C103 r43 vw44 (fun r45 vw46 =>
        St vw46 (⟨w.heap.size, 0, none⟩ : Addr) (.int .i64 r45) fun vw47 =>
        St vw47 (⟨vw2.heap.size, 0, none⟩ : Addr) (.int .i64 0) fun vw48 =>
        CD101 (some (⟨w.heap.size, 0, none⟩ : Addr)) (some (⟨vw2.heap.size, 0, none⟩ : Addr)) none vw48 fun vw49 =>
          Ld vw49 (⟨w.heap.size, 0, none⟩ : Addr) (Value.int .i64) fun (x50 : Int) =>
          Ld vw49 (⟨vw2.heap.size, 0, none⟩ : Addr) (Value.int .i64) fun (x51 : Int) =>
          R x50 x51 vw49) (S147P w vw2 R))
/-- foliant/fix.Dot -/
def S147 (l1 : Slc) (w : World) (R : Int → Int → World → Prop) : Prop :=
  Nw w (.cells #[.int .i64 0] 2) fun vw2 =>
  Nw vw2 (.cells #[.int .i64 0] 43) fun vw3 =>
  Br ((Int.tmod ((l1.len : Nat) : Int) 2) != 0) (St vw3 (⟨w.heap.size, 0, none⟩ : Addr) (.int .i64 0) fun vw13 =>
    St vw13 (⟨vw2.heap.size, 0, none⟩ : Addr) (.int .i64 1) fun vw14 =>
    CD101 (some (⟨w.heap.size, 0, none⟩ : Addr)) (some (⟨vw2.heap.size, 0, none⟩ : Addr)) none vw14 fun vw15 =>
      Ld vw15 (⟨w.heap.size, 0, none⟩ : Addr) (Value.int .i64) fun (x16 : Int) =>
      Ld vw15 (⟨vw2.heap.size, 0, none⟩ : Addr) (Value.int .i64) fun (x17 : Int) =>
      R x16 x17 vw15) (Br (decide (((l1.len : Nat) : Int) > 8)) (St vw3 (⟨w.heap.size, 0, none⟩ : Addr) (.int .i64 0) fun vw18 =>
      St vw18 (⟨vw2.heap.size, 0, none⟩ : Addr) (.int .i64 1) fun vw19 =>
      CD101 (some (⟨w.heap.size, 0, none⟩ : Addr)) (some (⟨vw2.heap.size, 0, none⟩ : Addr)) none vw19 fun vw20 =>
        Ld vw20 (⟨w.heap.size, 0, none⟩ : Addr) (Value.int .i64) fun (x21 : Int) =>
        Ld vw20 (⟨vw2.heap.size, 0, none⟩ : Addr) (Value.int .i64) fun (x22 : Int) =>
        R x21 x22 vw20) (C102 l1 vw3 (fun vw23 =>
        Lp (σ := Int) (S147L1 w l1 vw2 R) 0 vw23) (S147P w vw2 R)))
def pl147 : DPlan := (.pre (.reg .seq) (.here [2, 3] (.seq (.seq (.reg .seq) (.cond (.seq (.reg .seq) .leaf) .leaf)) (.seq (.reg .seq) (.seq (.seq (.reg .seq) (.block (.loop [(4, (.one (.int .i64)))] [0, 2, 3] (.seq (.seq (.reg .seq) (.cond .leaf .leaf)) (.seq (.block (.reg (.tail 12))) (.reg .seq)))))) (.seq (.reg .seq) .leaf))))))
set_option maxRecDepth 100000 in
theorem T147 (l1 : Slc) (w : World) (R : Int → Int → World → Prop) (h : S147 l1 w R) : C147 l1 w R := by
  have e : fnTD Tryz.prog FF MAY (fun _ _ => False) pl147 Tryz.f147 [Slc.v l1] w [(.one (.int .i64)), (.one (.int .i64))] (fun s w => R s.1 s.2 w) = S147 l1 w R := by kernel_rfl
  exact (fnD_calls okF okM Tryz.func147 (by kernel_rfl) (by kernel_rfl) (e.mpr h)).mono fun _ _ ⟨s, he, hR⟩ => ⟨s.1, s.2, he, hR⟩

def S63P (w : World) (vw2 : World) (R : Int → Int → World → Prop) (x5 : Value) (vw4 : World) : Prop :=
  CD101 (some (⟨w.heap.size, 0, none⟩ : Addr)) (some (⟨vw2.heap.size, 0, none⟩ : Addr)) (some x5) vw4 fun vw6 =>
    Ld vw6 (⟨w.heap.size, 0, none⟩ : Addr) (Value.int .i64) fun (x7 : Int) =>
    Ld vw6 (⟨vw2.heap.size, 0, none⟩ : Addr) (Value.int .i64) fun (x8 : Int) =>
    R x7 x8 vw6
def S63L1 (w : World) (l1 : Slc) (vw2 : World) (R : Int → Int → World → Prop) (I12 : Int → World → Prop) (s10 : Int) (vw11 : World) : Prop :=
  Br (decide (s10 < ((l1.len : Nat) : Int))) (0 ≤ s10 ∧ s10 < (l1.len : Nat) ∧ Nn l1.p fun a13 =>
    Ld vw11 (a13.add ((s10).toNat * 1)) (Value.int .i64) fun (x14 : Int) =>
    Ld vw11 (⟨w.heap.size, 0, none⟩ : Addr) (Value.int .i64) fun (x15 : Int) =>
    St vw11 (⟨w.heap.size, 0, none⟩ : Addr) (.int .i64 (IntKind.i64.wrap (x15 + x14))) fun vw16 =>
    I12 (IntKind.i64.wrap (s10 + 1)) vw16) (Ld vw11 (⟨w.heap.size, 0, none⟩ : Addr) (Value.int .i64) fun (x17 : Int) =>
    C103 x17 vw11 (fun r18 vw19 =>
      St vw19 (⟨w.heap.size, 0, none⟩ : Addr) (.int .i64 r18) fun vw20 =>
      St vw20 (⟨vw2.heap.size, 0, none⟩ : Addr) (.int .i64 0) fun vw21 =>
      CD101 (some (⟨w.heap.size, 0, none⟩ : Addr)) (some (⟨vw2.heap.size, 0, none⟩ : Addr)) none vw21 fun vw22 =>
        Ld vw22 (⟨w.heap.size, 0, none⟩ : Addr) (Value.int .i64) fun (x23 : Int) =>
        Ld vw22 (⟨vw2.heap.size, 0, none⟩ : Addr) (Value.int .i64) fun (x24 : Int) =>
        R x23 x24 vw22) (S63P w vw2 R))
/-- foliant/fix.Sum -/
def S63 (l1 : Slc) (w : World) (R : Int → Int → World → Prop) : Prop :=
  Nw w (.cells #[.int .i64 0] 2) fun vw2 =>
  Nw vw2 (.cells #[.int .i64 0] 43) fun vw3 =>
  C102 l1 vw3 (fun vw9 =>
    Lp (σ := Int) (S63L1 w l1 vw2 R) 0 vw9) (S63P w vw2 R)
def pl63 : DPlan := (.pre (.reg .seq) (.here [2, 3] (.seq (.reg .seq) (.seq (.seq (.reg .seq) (.block (.loop [(10, (.one (.int .i64)))] [2, 3, 8, 9] (.seq (.reg .seq) (.seq (.cond .leaf .leaf) (.seq (.block (.seq (.reg .seq) (.reg .seq))) (.reg .seq))))))) (.seq (.reg .seq) .leaf)))))
set_option maxRecDepth 100000 in
theorem T63 (l1 : Slc) (w : World) (R : Int → Int → World → Prop) (h : S63 l1 w R) : C63 l1 w R := by
  have e : fnTD Tryz.prog FF MAY (fun _ _ => False) pl63 Tryz.f63 [Slc.v l1] w [(.one (.int .i64)), (.one (.int .i64))] (fun s w => R s.1 s.2 w) = S63 l1 w R := by kernel_rfl
  exact (fnD_calls okF okM Tryz.func63 (by kernel_rfl) (by kernel_rfl) (e.mpr h)).mono fun _ _ ⟨s, he, hR⟩ => ⟨s.1, s.2, he, hR⟩

def S64P (w : World) (vw3 : World) (R : Int → Int → World → Prop) (x6 : Value) (vw5 : World) : Prop :=
  CD101 (some (⟨w.heap.size, 0, none⟩ : Addr)) (some (⟨vw3.heap.size, 0, none⟩ : Addr)) (some x6) vw5 fun vw7 =>
    Ld vw7 (⟨w.heap.size, 0, none⟩ : Addr) (Value.int .i64) fun (x8 : Int) =>
    Ld vw7 (⟨vw3.heap.size, 0, none⟩ : Addr) (Value.int .i64) fun (x9 : Int) =>
    R x8 x9 vw7
/-- foliant/fix.Mul -/
def S64 (a1 : Int) (b2 : Int) (w : World) (R : Int → Int → World → Prop) : Prop :=
  Nw w (.cells #[.int .i64 0] 2) fun vw3 =>
  Nw vw3 (.cells #[.int .i64 0] 43) fun vw4 =>
  Nw vw4 (.cells #[.int .i64 a1, .int .i64 b2] 2) fun vw10 =>
  C102 (⟨some ⟨vw4.heap.size, 0, none⟩, 2, 2⟩ : Slc) vw10 (fun vw11 =>
    C104 (IntKind.i64.wrap (a1 * b2)) 10000 vw11 fun r12 vw13 =>
      C103 r12 vw13 (fun r14 vw15 =>
        St vw15 (⟨w.heap.size, 0, none⟩ : Addr) (.int .i64 r14) fun vw16 =>
        St vw16 (⟨vw3.heap.size, 0, none⟩ : Addr) (.int .i64 0) fun vw17 =>
        CD101 (some (⟨w.heap.size, 0, none⟩ : Addr)) (some (⟨vw3.heap.size, 0, none⟩ : Addr)) none vw17 fun vw18 =>
          Ld vw18 (⟨w.heap.size, 0, none⟩ : Addr) (Value.int .i64) fun (x19 : Int) =>
          Ld vw18 (⟨vw3.heap.size, 0, none⟩ : Addr) (Value.int .i64) fun (x20 : Int) =>
          R x19 x20 vw18) (S64P w vw3 R)) (S64P w vw3 R)
def pl64 : DPlan := (.pre (.reg .seq) (.here [4, 5] (.seq (.reg .seq) (.seq (.reg .seq) .leaf))))
set_option maxRecDepth 100000 in
theorem T64 (a1 : Int) (b2 : Int) (w : World) (R : Int → Int → World → Prop) (h : S64 a1 b2 w R) : C64 a1 b2 w R := by
  have e : fnTD Tryz.prog FF MAY (fun _ _ => False) pl64 Tryz.f64 [.int .i64 a1, .int .i64 b2] w [(.one (.int .i64)), (.one (.int .i64))] (fun s w => R s.1 s.2 w) = S64 a1 b2 w R := by kernel_rfl
  exact (fnD_calls okF okM Tryz.func64 (by kernel_rfl) (by kernel_rfl) (e.mpr h)).mono fun _ _ ⟨s, he, hR⟩ => ⟨s.1, s.2, he, hR⟩

/-- foliant/fix.Near -/
def S100 (n1 : Int) (vby2 : Int) (w : World) (R : Int → Int → World → Prop) : Prop :=
  Br (decide (vby2 < 1)) (R 0 1 w) (Br (decide (n1 < (-4611686018427387904))) (R 0 2 w) (Br (decide (n1 > 4611686018427387904)) (R 0 2 w) (C104 n1 vby2 w fun r3 vw4 =>
          R r3 0 vw4)))
def pl100 : Plan := (.seq (.reg .seq) (.seq (.block (.seq (.reg .seq) (.cond (.seq (.reg .seq) .leaf) (.seq (.reg .seq) (.cond (.seq (.reg .seq) .leaf) .leaf))))) (.seq (.reg .seq) .leaf)))
set_option maxRecDepth 100000 in
theorem T100 (n1 : Int) (vby2 : Int) (w : World) (R : Int → Int → World → Prop) (h : S100 n1 vby2 w R) : C100 n1 vby2 w R := by
  have e : fnT Tryz.prog ⟨FF, MAY, (fun _ _ => False)⟩ pl100 Tryz.f100 [.int .i64 n1, .int .i64 vby2] w [(.one (.int .i64)), (.one (.int .i64))] (fun s w => R s.1 s.2 w) = S100 n1 vby2 w R := by kernel_rfl
  exact (fn_calls okF okM Tryz.func100 (by kernel_rfl) (by kernel_rfl) (e.mpr h)).mono fun _ _ ⟨s, he, hR⟩ => ⟨s.1, s.2, he, hR⟩

/-- foliant/foliantref02.Within -/
def S109 (n1 : Int) (w : World) (R : Bool → World → Prop) : Prop :=
  Br (decide (n1 ≥ (-1073741824))) (R (decide (n1 ≤ 1073741824)) w) (R false w)
def pl109 : Plan := (.seq (.reg .seq) (.seq (.reg .seq) .leaf))
set_option maxRecDepth 100000 in
theorem T109 (n1 : Int) (w : World) (R : Bool → World → Prop) (h : S109 n1 w R) : C109 n1 w R := by
  have e : fnT Tryz.prog ⟨FF, MAY, (fun _ _ => False)⟩ pl109 Tryz.f109 [.int .i64 n1] w [(.one .bool)] (fun s w => R s w) = S109 n1 w R := by kernel_rfl
  exact (fn_calls okF okM Tryz.func109 (by kernel_rfl) (by kernel_rfl) (e.mpr h)).mono fun _ _ ⟨s, he, hR⟩ => ⟨s, he, hR⟩

/-- foliant/foliantref02.told -/
def S110 (n1 : Int) (w : World) (R : Int → Int → World → Prop) : Prop :=
  C109 n1 w fun r2 vw3 =>
    Br (!r2) (R 0 2 vw3) (R n1 0 vw3)
def pl110 : Plan := (.seq (.reg .seq) (.seq (.seq (.reg .seq) (.cond (.seq (.reg .seq) .leaf) .leaf)) (.seq (.reg .seq) .leaf)))
set_option maxRecDepth 100000 in
theorem T110 (n1 : Int) (w : World) (R : Int → Int → World → Prop) (h : S110 n1 w R) : C110 n1 w R := by
  have e : fnT Tryz.prog ⟨FF, MAY, (fun _ _ => False)⟩ pl110 Tryz.f110 [.int .i64 n1] w [(.one (.int .i64)), (.one (.int .i64))] (fun s w => R s.1 s.2 w) = S110 n1 w R := by kernel_rfl
  exact (fn_calls okF okM Tryz.func110 (by kernel_rfl) (by kernel_rfl) (e.mpr h)).mono fun _ _ ⟨s, he, hR⟩ => ⟨s.1, s.2, he, hR⟩

/-- foliant/foliantref02.nearest -/
def S128 (n1 : Int) (vby2 : Int) (w : World) (R : Int → World → Prop) : Prop :=
  vby2 ≠ 0 ∧ vby2 ≠ 0 ∧ Br (decide ((Int.tmod n1 vby2) < 0)) (Lt (decide ((IntKind.i64.wrap ((Int.tmod n1 vby2) + vby2)) ≥ (IntKind.i64.wrap (vby2 - (IntKind.i64.wrap ((Int.tmod n1 vby2) + vby2)))))) fun (x3 : Bool) =>
    Br x3 (R (IntKind.i64.wrap ((IntKind.i64.wrap ((IntKind.i64.wrap (Int.tdiv n1 vby2)) - 1)) + 1)) w) (R (IntKind.i64.wrap ((IntKind.i64.wrap (Int.tdiv n1 vby2)) - 1)) w)) (Br (decide ((Int.tmod n1 vby2) ≥ (IntKind.i64.wrap (vby2 - (Int.tmod n1 vby2))))) (R (IntKind.i64.wrap ((IntKind.i64.wrap (Int.tdiv n1 vby2)) + 1)) w) (R (IntKind.i64.wrap (Int.tdiv n1 vby2)) w))
def pl128 : Plan := (.seq (.reg .seq) (.seq (.reg .seq) (.seq (.reg .seq) (.seq (.seq (.reg .seq) (.cond (.seq (.reg .seq) (.reg .seq)) .leaf)) (.seq (.seq (.reg .seq) (.cond (.reg .seq) .leaf)) (.seq (.reg .seq) .leaf))))))
set_option maxRecDepth 100000 in
theorem T128 (n1 : Int) (vby2 : Int) (w : World) (R : Int → World → Prop) (h : S128 n1 vby2 w R) : C128 n1 vby2 w R := by
  have e : fnT Tryz.prog ⟨FF, MAY, (fun _ _ => False)⟩ pl128 Tryz.f128 [.int .i64 n1, .int .i64 vby2] w [(.one (.int .i64))] (fun s w => R s w) = S128 n1 vby2 w R := by kernel_rfl
  exact (fn_calls okF okM Tryz.func128 (by kernel_rfl) (by kernel_rfl) (e.mpr h)).mono fun _ _ ⟨s, he, hR⟩ => ⟨s, he, hR⟩

def S117L1 (l1 : Slc) (R : Int → Int → World → Prop) (I27 : (Int × Int) → World → Prop) (s25 : Int × Int) (vw26 : World) : Prop :=
  Br (decide ((IntKind.i64.wrap (s25.2 + 1)) < ((l1.len : Nat) : Int))) (0 ≤ s25.2 ∧ s25.2 < (l1.len : Nat) ∧ Nn l1.p fun a28 =>
    Ld vw26 (a28.add ((s25.2).toNat * 1)) (Value.int .i64) fun (x29 : Int) =>
    C109 x29 vw26 fun r30 vw31 =>
      Br (!r30) (R 0 2 vw31) (0 ≤ (IntKind.i64.wrap (s25.2 + 1)) ∧ (IntKind.i64.wrap (s25.2 + 1)) < (l1.len : Nat) ∧ Nn l1.p fun a32 =>
        Ld vw31 (a32.add ((IntKind.i64.wrap (s25.2 + 1)).toNat * 1)) (Value.int .i64) fun (x33 : Int) =>
        C109 x33 vw31 fun r34 vw35 =>
          Br (!r34) (R 0 2 vw35) (0 ≤ s25.2 ∧ s25.2 < (l1.len : Nat) ∧ Nn l1.p fun a36 =>
            Ld vw35.drew (a36.add ((s25.2).toNat * 1)) (Value.int .i64) fun (x37 : Int) =>
            0 ≤ (IntKind.i64.wrap (s25.2 + 1)) ∧ (IntKind.i64.wrap (s25.2 + 1)) < (l1.len : Nat) ∧ Nn l1.p fun a38 =>
            Ld vw35.drew (a38.add ((IntKind.i64.wrap (s25.2 + 1)).toNat * 1)) (Value.int .i64) fun (x39 : Int) =>
            I27 (IntKind.i64.wrap (s25.1 + (IntKind.i64.wrap (x37 * x39))), IntKind.i64.wrap (s25.2 + 2)) vw35.drew))) (C128 s25.1 10000 vw26 fun r40 vw41 =>
      C110 r40 vw41 fun r42 r43 vw44 =>
        R r42 r43 vw44)
/-- foliant/foliantref02.Dot -/
def S117 (l1 : Slc) (w : World) (R : Int → Int → World → Prop) : Prop :=
  Br ((Int.tmod ((l1.len : Nat) : Int) 2) == 1) (R 0 1 w) (Br (decide (((l1.len : Nat) : Int) > 8)) (R 0 1 w) (Lp (σ := Int × Int) (S117L1 l1 R) (0, 0) w))
def pl117 : Plan := (.seq (.reg .seq) (.seq (.seq (.reg .seq) (.cond (.seq (.reg .seq) .leaf) .leaf)) (.seq (.reg .seq) (.seq (.seq (.reg .seq) (.block (.loop [(4, (.one (.int .i64))), (5, (.one (.int .i64)))] [0] (.seq (.seq (.reg .seq) (.cond .leaf .leaf)) (.seq (.block (.seq (.seq (.reg .seq) (.cond (.seq (.reg .seq) .leaf) .leaf)) (.reg .still))) (.reg .seq)))))) (.seq (.reg .seq) .leaf)))))
set_option maxRecDepth 100000 in
theorem T117 (l1 : Slc) (w : World) (R : Int → Int → World → Prop) (h : S117 l1 w R) : C117 l1 w R := by
  have e : fnT Tryz.prog ⟨FF, MAY, (fun _ _ => False)⟩ pl117 Tryz.f117 [Slc.v l1] w [(.one (.int .i64)), (.one (.int .i64))] (fun s w => R s.1 s.2 w) = S117 l1 w R := by kernel_rfl
  exact (fn_calls okF okM Tryz.func117 (by kernel_rfl) (by kernel_rfl) (e.mpr h)).mono fun _ _ ⟨s, he, hR⟩ => ⟨s.1, s.2, he, hR⟩

def S70L1 (l1 : Slc) (R : Int → Int → World → Prop) (I17 : (Int × Int) → World → Prop) (s15 : Int × Int) (vw16 : World) : Prop :=
  Br (decide (s15.2 < ((l1.len : Nat) : Int))) (0 ≤ s15.2 ∧ s15.2 < (l1.len : Nat) ∧ Nn l1.p fun a18 =>
    Ld vw16 (a18.add ((s15.2).toNat * 1)) (Value.int .i64) fun (x19 : Int) =>
    C109 x19 vw16 fun r20 vw21 =>
      Br (!r20) (R 0 2 vw21) (0 ≤ s15.2 ∧ s15.2 < (l1.len : Nat) ∧ Nn l1.p fun a22 =>
        Ld vw21 (a22.add ((s15.2).toNat * 1)) (Value.int .i64) fun (x23 : Int) =>
        I17 (IntKind.i64.wrap (s15.1 + x23), IntKind.i64.wrap (s15.2 + 1)) vw21)) (C110 s15.1 vw16 fun r24 r25 vw26 =>
      R r24 r25 vw26)
/-- foliant/foliantref02.Sum -/
def S70 (l1 : Slc) (w : World) (R : Int → Int → World → Prop) : Prop :=
  Lp (σ := Int × Int) (S70L1 l1 R) (0, 0) w
def pl70 : Plan := (.seq (.reg .seq) (.seq (.reg .seq) (.seq (.seq (.reg .seq) (.block (.loop [(4, (.one (.int .i64))), (5, (.one (.int .i64)))] [0] (.seq (.seq (.reg .seq) (.cond .leaf .leaf)) (.seq (.block (.seq (.seq (.reg .seq) (.cond (.seq (.reg .seq) .leaf) .leaf)) (.reg .seq))) (.reg .seq)))))) (.seq (.reg .seq) .leaf))))
set_option maxRecDepth 100000 in
theorem T70 (l1 : Slc) (w : World) (R : Int → Int → World → Prop) (h : S70 l1 w R) : C70 l1 w R := by
  have e : fnT Tryz.prog ⟨FF, MAY, (fun _ _ => False)⟩ pl70 Tryz.f70 [Slc.v l1] w [(.one (.int .i64)), (.one (.int .i64))] (fun s w => R s.1 s.2 w) = S70 l1 w R := by kernel_rfl
  exact (fn_calls okF okM Tryz.func70 (by kernel_rfl) (by kernel_rfl) (e.mpr h)).mono fun _ _ ⟨s, he, hR⟩ => ⟨s.1, s.2, he, hR⟩

/-- foliant/foliantref02.Mul -/
def S107 (a1 : Int) (b2 : Int) (w : World) (R : Int → Int → World → Prop) : Prop :=
  C109 a1 w fun r7 vw8 =>
    Br (!r7) (R 0 2 vw8) (C109 b2 vw8 fun r9 vw10 =>
        Br (!r9) (R 0 2 vw10) (C128 (IntKind.i64.wrap (a1 * b2)) 10000 vw10 fun r11 vw12 =>
            C110 r11 vw12 fun r13 r14 vw15 =>
              R r13 r14 vw15))
def pl107 : Plan := (.seq (.reg .seq) (.seq (.seq (.reg .seq) (.cond (.seq (.reg .seq) .leaf) .leaf)) (.seq (.reg .seq) .leaf)))
set_option maxRecDepth 100000 in
theorem T107 (a1 : Int) (b2 : Int) (w : World) (R : Int → Int → World → Prop) (h : S107 a1 b2 w R) : C107 a1 b2 w R := by
  have e : fnT Tryz.prog ⟨FF, MAY, (fun _ _ => False)⟩ pl107 Tryz.f107 [.int .i64 a1, .int .i64 b2] w [(.one (.int .i64)), (.one (.int .i64))] (fun s w => R s.1 s.2 w) = S107 a1 b2 w R := by kernel_rfl
  exact (fn_calls okF okM Tryz.func107 (by kernel_rfl) (by kernel_rfl) (e.mpr h)).mono fun _ _ ⟨s, he, hR⟩ => ⟨s.1, s.2, he, hR⟩

/-- foliant/foliantref02.Near -/
def S111 (n1 : Int) (vby2 : Int) (w : World) (R : Int → Int → World → Prop) : Prop :=
  Br (decide (vby2 < 1)) (R 0 1 w) (Br (decide (n1 < (-4611686018427387904))) (R 0 2 w) (Br (decide (n1 > 4611686018427387904)) (R 0 2 w) (C128 n1 vby2 w fun r3 vw4 =>
          R r3 0 vw4)))
def pl111 : Plan := (.seq (.reg .seq) (.seq (.seq (.reg .seq) (.cond (.seq (.reg .seq) .leaf) .leaf)) (.seq (.seq (.reg .seq) (.cond (.seq (.reg .seq) .leaf) .leaf)) (.seq (.reg .seq) .leaf))))
set_option maxRecDepth 100000 in
theorem T111 (n1 : Int) (vby2 : Int) (w : World) (R : Int → Int → World → Prop) (h : S111 n1 vby2 w R) : C111 n1 vby2 w R := by
  have e : fnT Tryz.prog ⟨FF, MAY, (fun _ _ => False)⟩ pl111 Tryz.f111 [.int .i64 n1, .int .i64 vby2] w [(.one (.int .i64)), (.one (.int .i64))] (fun s w => R s.1 s.2 w) = S111 n1 vby2 w R := by kernel_rfl
  exact (fn_calls okF okM Tryz.func111 (by kernel_rfl) (by kernel_rfl) (e.mpr h)).mono fun _ _ ⟨s, he, hR⟩ => ⟨s.1, s.2, he, hR⟩

end Go.Proofs.YtcblpehnkogfdaaGreatDoor
