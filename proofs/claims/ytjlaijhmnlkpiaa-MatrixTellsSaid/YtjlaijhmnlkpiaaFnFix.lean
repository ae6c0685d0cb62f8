/- The formulas of 10 functions of the program, written by program (gen.py); the kernel checks each. No condition. -/
import Derived.Test.YtjlaijhmnlkpiaaFn
namespace Go.Proofs.Ytjlaijhmnlkpiaa
open Sh
set_option linter.unusedVariables false

/-- foliant/fix.face -/
def S100_nil (n1 : Option Addr) (ve2 : Option Addr) (w : World) (R : World → Prop) : Prop :=
  R w
def CD100 (n1 : Option Addr) (ve2 : Option Addr) (u : Option Value) (w : World) (R : World → Prop) : Prop := CallD Try.prog 100 #[.pointer n1, .pointer ve2] u w R
theorem CD100.mono {n1 : Option Addr} {ve2 : Option Addr} {u : Option Value} {w : World} {R R' : World → Prop} (h : CD100 n1 ve2 u w R) (hr : ∀ w', R w' → R' w') : CD100 n1 ve2 u w R' :=
  CallsD.mono h fun _ _ _ ⟨h1, h2, h3⟩ => ⟨h1, h2, hr _ h3⟩
def pl100_nil : Plan := (.block (.seq (.reg .seq) (.cond (.reg .seq) (.seq (.reg .seq) (.cond (.seq (.reg .seq) (.reg .seq)) (.seq (.reg .seq) (.reg .seq)))))))
set_option maxRecDepth 100000 in
theorem T100_nil (n1 : Option Addr) (ve2 : Option Addr) (w : World) (R : World → Prop) (h : S100_nil n1 ve2 w R) : CD100 n1 ve2 none w R := by
  have e : fnTS Try.prog FF MAY pl100_nil Try.f100 [.pointer n1, .pointer ve2] none w R = S100_nil n1 ve2 w R := by kernel_rfl
  exact fnS_calls okF okM Try.func100 (by kernel_rfl) (by kernel_rfl) (e.mpr h)

/-- foliant/fix.face -/
def S100_T151 (n1 : Option Addr) (ve2 : Option Addr) (u3 : Int) (w : World) (R : World → Prop) : Prop :=
  Nn n1 fun a4 =>
  St w a4 (.int .i64 0) fun vw5 =>
  Nn ve2 fun a6 =>
  St vw5 a6 (.int .i64 u3) fun vw7 =>
  R vw7
def pl100_T151 : Plan := (.block (.seq (.reg .seq) (.cond (.reg .seq) (.seq (.reg .seq) (.cond (.seq (.reg .seq) (.reg .seq)) (.seq (.reg .seq) (.reg .seq)))))))
set_option maxRecDepth 100000 in
theorem T100_T151 (n1 : Option Addr) (ve2 : Option Addr) (u3 : Int) (w : World) (R : World → Prop) (h : S100_T151 n1 ve2 u3 w R) : CD100 n1 ve2 (some (.iface 151 (.int .i64 u3))) w R := by
  have e : fnTS Try.prog FF MAY pl100_T151 Try.f100 [.pointer n1, .pointer ve2] (some (.iface 151 (.int .i64 u3))) w R = S100_T151 n1 ve2 u3 w R := by kernel_rfl
  exact fnS_calls okF okM Try.func100 (by kernel_rfl) (by kernel_rfl) (e.mpr h)

/-- foliant/fix.within -/
def S109 (n1 : Int) (w : World) (R : Bool → World → Prop) : Prop :=
  Br (decide (n1 ≥ (-1073741824))) (R (decide (n1 ≤ 1073741824)) w) (R false w)
def C109 (n1 : Int) (w : World) (R : Bool → World → Prop) : Prop :=
  Calls Try.prog 109 #[.int .i64 n1] w fun e w' => ∃ r0 : Bool, e = .returned (.bool r0) ∧ R r0 w'
theorem C109.mono {n1 : Int} {w : World} {R R' : Bool → World → Prop} (h : C109 n1 w R) (hr : ∀ r0 w', R r0 w' → R' r0 w') : C109 n1 w R' :=
  Calls.mono h fun _ _ ⟨r0, he, hR⟩ => ⟨r0, he, hr _ _ hR⟩
def pl109 : Plan := (.seq (.reg .seq) (.seq (.reg .seq) .leaf))
set_option maxRecDepth 100000 in
theorem T109 (n1 : Int) (w : World) (R : Bool → World → Prop) (h : S109 n1 w R) : C109 n1 w R := by
  have e : fnT Try.prog ⟨FF, MAY, (fun _ _ => False)⟩ pl109 Try.f109 [.int .i64 n1] w [(.one .bool)] (fun s w => R s w) = S109 n1 w R := by kernel_rfl
  exact (fn_calls okF okM Try.func109 (by kernel_rfl) (by kernel_rfl) (e.mpr h)).mono fun _ _ ⟨s, he, hR⟩ => ⟨s, he, hR⟩

def S101L1 (l1 : Slc) (R : World → Prop) (PR : Value → World → Prop) (I4 : Int → World → Prop) (s2 : Int) (vw3 : World) : Prop :=
  Br (decide (s2 < ((l1.len : Nat) : Int))) (0 ≤ s2 ∧ s2 < (l1.len : Nat) ∧ Nn l1.p fun a5 =>
    Ld vw3 (a5.add ((s2).toNat * 1)) (Value.int .i64) fun (x6 : Int) =>
    C109 x6 vw3 fun r7 vw8 =>
      Br (!r7) (PR (.iface 151 (.int .i64 2)) vw8) (I4 (IntKind.i64.wrap (s2 + 1)) vw8)) (R vw3)
/-- foliant/fix.bounded -/
def S101 (l1 : Slc) (w : World) (R : World → Prop) (PR : Value → World → Prop) : Prop :=
  Lp (σ := Int) (S101L1 l1 R PR) 0 w
def C101 (l1 : Slc) (w : World) (R : World → Prop) (PR : Value → World → Prop) : Prop :=
  Calls Try.prog 101 #[Slc.v l1] w fun e w' => (e = .returned (.tuple #[]) ∧ R w') ∨ ∃ v, e = .panicked (onePanic v) ∧ PR v w'
theorem C101.mono {l1 : Slc} {w : World} {R R' : World → Prop} {PR PR' : Value → World → Prop} (h : C101 l1 w R PR) (hr : ∀ w', R w' → R' w') (hp : ∀ v w', PR v w' → PR' v w') : C101 l1 w R' PR' :=
  Calls.mono h fun _ _ he => he.elim (fun ⟨he, hR⟩ => .inl ⟨he, hr _ hR⟩) fun ⟨v, he, hP⟩ => .inr ⟨v, he, hp _ _ hP⟩
def pl101 : Plan := (.seq (.reg .seq) (.block (.loop [(6, (.one (.int .i64)))] [4, 5] (.seq (.reg .seq) (.seq (.cond .leaf .leaf) (.seq (.block (.seq (.reg .seq) (.seq (.reg .seq) (.cond (.reg .seq) .leaf)))) (.reg .seq)))))))
set_option maxRecDepth 100000 in
theorem T101 (l1 : Slc) (w : World) (R : World → Prop) (PR : Value → World → Prop) (h : S101 l1 w R PR) : C101 l1 w R PR := by
  have e : fnT Try.prog ⟨FF, MAY, PR⟩ pl101 Try.f101 [Slc.v l1] w [] (fun _ w => R w) = S101 l1 w R PR := by kernel_rfl
  exact (fn_callsP okF okM Try.func101 (by kernel_rfl) (by kernel_rfl) (e.mpr h)).mono fun _ _ he => he.elim (fun ⟨_, he, hR⟩ => .inl ⟨he, hR⟩) .inr

/-- foliant/fix.answer -/
def S102 (n1 : Int) (w : World) (R : Int → World → Prop) (PR : Value → World → Prop) : Prop :=
  Nw w (.cells #[.int .i64 n1] 2) fun vw2 =>
  C101 (⟨some ⟨w.heap.size, 0, none⟩, 1, 1⟩ : Slc) vw2 (fun vw3 =>
    R n1 vw3) PR
def C102 (n1 : Int) (w : World) (R : Int → World → Prop) (PR : Value → World → Prop) : Prop :=
  Calls Try.prog 102 #[.int .i64 n1] w fun e w' => (∃ r0 : Int, e = .returned (.int .i64 r0) ∧ R r0 w') ∨ ∃ v, e = .panicked (onePanic v) ∧ PR v w'
theorem C102.mono {n1 : Int} {w : World} {R R' : Int → World → Prop} {PR PR' : Value → World → Prop} (h : C102 n1 w R PR) (hr : ∀ r0 w', R r0 w' → R' r0 w') (hp : ∀ v w', PR v w' → PR' v w') : C102 n1 w R' PR' :=
  Calls.mono h fun _ _ he => he.elim (fun ⟨r0, he, hR⟩ => .inl ⟨r0, he, hr _ _ hR⟩) fun ⟨v, he, hP⟩ => .inr ⟨v, he, hp _ _ hP⟩
def pl102 : Plan := (.seq (.reg .seq) (.seq (.reg .seq) (.seq (.reg .seq) .leaf)))
set_option maxRecDepth 100000 in
theorem T102 (n1 : Int) (w : World) (R : Int → World → Prop) (PR : Value → World → Prop) (h : S102 n1 w R PR) : C102 n1 w R PR := by
  have e : fnT Try.prog ⟨FF, MAY, PR⟩ pl102 Try.f102 [.int .i64 n1] w [(.one (.int .i64))] (fun s w => R s w) = S102 n1 w R PR := by kernel_rfl
  exact (fn_callsP okF okM Try.func102 (by kernel_rfl) (by kernel_rfl) (e.mpr h)).mono fun _ _ he => he.elim (fun ⟨s, he, hR⟩ => .inl ⟨s, he, hR⟩) .inr

/-- foliant/fix.nearest -/
def S103 (n1 : Int) (vby2 : Int) (w : World) (R : Int → World → Prop) : Prop :=
  vby2 ≠ 0 ∧ vby2 ≠ 0 ∧ Br (decide ((Int.tmod n1 vby2) < 0)) (Lt (decide ((IntKind.i64.wrap ((Int.tmod n1 vby2) + vby2)) ≥ (IntKind.i64.wrap (vby2 - (IntKind.i64.wrap ((Int.tmod n1 vby2) + vby2)))))) fun (x3 : Bool) =>
    Br x3 (R (IntKind.i64.wrap ((IntKind.i64.wrap ((IntKind.i64.wrap (Int.tdiv n1 vby2)) - 1)) + 1)) w.drew) (R (IntKind.i64.wrap ((IntKind.i64.wrap (Int.tdiv n1 vby2)) - 1)) w.drew)) (Br (decide ((Int.tmod n1 vby2) ≥ (IntKind.i64.wrap (vby2 - (Int.tmod n1 vby2))))) (R (IntKind.i64.wrap ((IntKind.i64.wrap (Int.tdiv n1 vby2)) + 1)) w.drew) (R (IntKind.i64.wrap (Int.tdiv n1 vby2)) w.drew))
def C103 (n1 : Int) (vby2 : Int) (w : World) (R : Int → World → Prop) : Prop :=
  Calls Try.prog 103 #[.int .i64 n1, .int .i64 vby2] w fun e w' => ∃ r0 : Int, e = .returned (.int .i64 r0) ∧ R r0 w'
theorem C103.mono {n1 : Int} {vby2 : Int} {w : World} {R R' : Int → World → Prop} (h : C103 n1 vby2 w R) (hr : ∀ r0 w', R r0 w' → R' r0 w') : C103 n1 vby2 w R' :=
  Calls.mono h fun _ _ ⟨r0, he, hR⟩ => ⟨r0, he, hr _ _ hR⟩
def pl103 : Plan := (.seq (.reg .seq) (.seq (.reg .still) (.seq (.seq (.reg .seq) (.cond (.reg .seq) .leaf)) (.seq (.seq (.reg .seq) (.cond (.reg .seq) .leaf)) (.seq (.reg .seq) .leaf)))))
set_option maxRecDepth 100000 in
theorem T103 (n1 : Int) (vby2 : Int) (w : World) (R : Int → World → Prop) (h : S103 n1 vby2 w R) : C103 n1 vby2 w R := by
  have e : fnT Try.prog ⟨FF, MAY, (fun _ _ => False)⟩ pl103 Try.f103 [.int .i64 n1, .int .i64 vby2] w [(.one (.int .i64))] (fun s w => R s w) = S103 n1 vby2 w R := by kernel_rfl
  exact (fn_calls okF okM Try.func103 (by kernel_rfl) (by kernel_rfl) (e.mpr h)).mono fun _ _ ⟨s, he, hR⟩ => ⟨s, he, hR⟩

def S85P (w : World) (vw2 : World) (R : Int → Int → World → Prop) (x5 : Value) (vw4 : World) : Prop :=
  CD100 (some (⟨w.heap.size, 0, none⟩ : Addr)) (some (⟨vw2.heap.size, 0, none⟩ : Addr)) (some x5) vw4 fun vw6 =>
    Ld vw6 (⟨w.heap.size, 0, none⟩ : Addr) (Value.int .i64) fun (x7 : Int) =>
    Ld vw6 (⟨vw2.heap.size, 0, none⟩ : Addr) (Value.int .i64) fun (x8 : Int) =>
    R x7 x8 vw6
def S85L1 (w : World) (l1 : Slc) (vw2 : World) (R : Int → Int → World → Prop) (I35 : Int → World → Prop) (s33 : Int) (vw34 : World) : Prop :=
  Br (decide (s33 < ((l1.len : Nat) : Int))) (Ld vw34.drew (⟨w.heap.size, 0, none⟩ : Addr) (Value.int .i64) fun (x36 : Int) =>
    0 ≤ s33 ∧ s33 < (l1.len : Nat) ∧ Nn l1.p fun a37 =>
    Ld vw34.drew (a37.add ((s33).toNat * 1)) (Value.int .i64) fun (x38 : Int) =>
    0 ≤ (IntKind.i64.wrap (s33 + 1)) ∧ (IntKind.i64.wrap (s33 + 1)) < (l1.len : Nat) ∧ Nn l1.p fun a39 =>
    Ld vw34.drew (a39.add ((IntKind.i64.wrap (s33 + 1)).toNat * 1)) (Value.int .i64) fun (x40 : Int) =>
    St vw34.drew (⟨w.heap.size, 0, none⟩ : Addr) (.int .i64 (IntKind.i64.wrap (x36 + (IntKind.i64.wrap (x38 * x40))))) fun vw41 =>
    I35 (IntKind.i64.wrap (s33 + 2)) vw41) (Ld vw34 (⟨w.heap.size, 0, none⟩ : Addr) (Value.int .i64) fun (x42 : Int) =>
    C103 x42 10000 vw34 fun r43 vw44 =>
      C102 r43 vw44 (fun r45 vw46 =>
        St vw46 (⟨w.heap.size, 0, none⟩ : Addr) (.int .i64 r45) fun vw47 =>
        St vw47 (⟨vw2.heap.size, 0, none⟩ : Addr) (.int .i64 0) fun vw48 =>
        CD100 (some (⟨w.heap.size, 0, none⟩ : Addr)) (some (⟨vw2.heap.size, 0, none⟩ : Addr)) none vw48 fun vw49 =>
          Ld vw49 (⟨w.heap.size, 0, none⟩ : Addr) (Value.int .i64) fun (x50 : Int) =>
          Ld vw49 (⟨vw2.heap.size, 0, none⟩ : Addr) (Value.int .i64) fun (x51 : Int) =>
          R x50 x51 vw49) (S85P w vw2 R))
/-- foliant/fix.Dot -/
def S85 (l1 : Slc) (w : World) (R : Int → Int → World → Prop) : Prop :=
  Nw w (.cells #[.int .i64 0] 2) fun vw2 =>
  Nw vw2 (.cells #[.int .i64 0] 34) fun vw3 =>
  Br ((Int.tmod ((l1.len : Nat) : Int) 2) != 0) (St vw3 (⟨w.heap.size, 0, none⟩ : Addr) (.int .i64 0) fun vw13 =>
    St vw13 (⟨vw2.heap.size, 0, none⟩ : Addr) (.int .i64 1) fun vw14 =>
    CD100 (some (⟨w.heap.size, 0, none⟩ : Addr)) (some (⟨vw2.heap.size, 0, none⟩ : Addr)) none vw14 fun vw15 =>
      Ld vw15 (⟨w.heap.size, 0, none⟩ : Addr) (Value.int .i64) fun (x16 : Int) =>
      Ld vw15 (⟨vw2.heap.size, 0, none⟩ : Addr) (Value.int .i64) fun (x17 : Int) =>
      R x16 x17 vw15) (Br (decide (((l1.len : Nat) : Int) > 8)) (St vw3 (⟨w.heap.size, 0, none⟩ : Addr) (.int .i64 0) fun vw18 =>
      St vw18 (⟨vw2.heap.size, 0, none⟩ : Addr) (.int .i64 1) fun vw19 =>
      CD100 (some (⟨w.heap.size, 0, none⟩ : Addr)) (some (⟨vw2.heap.size, 0, none⟩ : Addr)) none vw19 fun vw20 =>
        Ld vw20 (⟨w.heap.size, 0, none⟩ : Addr) (Value.int .i64) fun (x21 : Int) =>
        Ld vw20 (⟨vw2.heap.size, 0, none⟩ : Addr) (Value.int .i64) fun (x22 : Int) =>
        R x21 x22 vw20) (C101 l1 vw3 (fun vw23 =>
        Lp (σ := Int) (S85L1 w l1 vw2 R) 0 vw23) (S85P w vw2 R)))
def C85 (l1 : Slc) (w : World) (R : Int → Int → World → Prop) : Prop :=
  Calls Try.prog 85 #[Slc.v l1] w fun e w' => ∃ r0 : Int, ∃ r1 : Int, e = .returned (.tuple #[.int .i64 r0, .int .i64 r1]) ∧ R r0 r1 w'
theorem C85.mono {l1 : Slc} {w : World} {R R' : Int → Int → World → Prop} (h : C85 l1 w R) (hr : ∀ r0 r1 w', R r0 r1 w' → R' r0 r1 w') : C85 l1 w R' :=
  Calls.mono h fun _ _ ⟨r0, r1, he, hR⟩ => ⟨r0, r1, he, hr _ _ _ hR⟩
def pl85 : DPlan := (.pre (.reg .seq) (.here [2, 3] (.seq (.seq (.reg .seq) (.cond (.seq (.reg .seq) .leaf) .leaf)) (.seq (.reg .seq) (.seq (.seq (.reg .seq) (.block (.loop [(4, (.one (.int .i64)))] [0, 2, 3] (.seq (.seq (.reg .seq) (.cond .leaf .leaf)) (.seq (.block (.reg (.tail 12))) (.reg .seq)))))) (.seq (.reg .seq) .leaf))))))
set_option maxRecDepth 100000 in
theorem T85 (l1 : Slc) (w : World) (R : Int → Int → World → Prop) (h : S85 l1 w R) : C85 l1 w R := by
  have e : fnTD Try.prog FF MAY (fun _ _ => False) pl85 Try.f85 [Slc.v l1] w [(.one (.int .i64)), (.one (.int .i64))] (fun s w => R s.1 s.2 w) = S85 l1 w R := by kernel_rfl
  exact (fnD_calls okF okM Try.func85 (by kernel_rfl) (by kernel_rfl) (e.mpr h)).mono fun _ _ ⟨s, he, hR⟩ => ⟨s.1, s.2, he, hR⟩

/-- foliant/foliantref02.Within -/
def S86 (n1 : Int) (w : World) (R : Bool → World → Prop) : Prop :=
  Br (decide (n1 ≥ (-1073741824))) (R (decide (n1 ≤ 1073741824)) w) (R false w)
def C86 (n1 : Int) (w : World) (R : Bool → World → Prop) : Prop :=
  Calls Try.prog 86 #[.int .i64 n1] w fun e w' => ∃ r0 : Bool, e = .returned (.bool r0) ∧ R r0 w'
theorem C86.mono {n1 : Int} {w : World} {R R' : Bool → World → Prop} (h : C86 n1 w R) (hr : ∀ r0 w', R r0 w' → R' r0 w') : C86 n1 w R' :=
  Calls.mono h fun _ _ ⟨r0, he, hR⟩ => ⟨r0, he, hr _ _ hR⟩
def pl86 : Plan := (.seq (.reg .seq) (.seq (.reg .seq) .leaf))
set_option maxRecDepth 100000 in
theorem T86 (n1 : Int) (w : World) (R : Bool → World → Prop) (h : S86 n1 w R) : C86 n1 w R := by
  have e : fnT Try.prog ⟨FF, MAY, (fun _ _ => False)⟩ pl86 Try.f86 [.int .i64 n1] w [(.one .bool)] (fun s w => R s w) = S86 n1 w R := by kernel_rfl
  exact (fn_calls okF okM Try.func86 (by kernel_rfl) (by kernel_rfl) (e.mpr h)).mono fun _ _ ⟨s, he, hR⟩ => ⟨s, he, hR⟩

/-- foliant/foliantref02.told -/
def S87 (n1 : Int) (w : World) (R : Int → Int → World → Prop) : Prop :=
  C86 n1 w fun r2 vw3 =>
    Br (!r2) (R 0 2 vw3) (R n1 0 vw3)
def C87 (n1 : Int) (w : World) (R : Int → Int → World → Prop) : Prop :=
  Calls Try.prog 87 #[.int .i64 n1] w fun e w' => ∃ r0 : Int, ∃ r1 : Int, e = .returned (.tuple #[.int .i64 r0, .int .i64 r1]) ∧ R r0 r1 w'
theorem C87.mono {n1 : Int} {w : World} {R R' : Int → Int → World → Prop} (h : C87 n1 w R) (hr : ∀ r0 r1 w', R r0 r1 w' → R' r0 r1 w') : C87 n1 w R' :=
  Calls.mono h fun _ _ ⟨r0, r1, he, hR⟩ => ⟨r0, r1, he, hr _ _ _ hR⟩
def pl87 : Plan := (.seq (.reg .seq) (.seq (.seq (.reg .seq) (.cond (.seq (.reg .seq) .leaf) .leaf)) (.seq (.reg .seq) .leaf)))
set_option maxRecDepth 100000 in
theorem T87 (n1 : Int) (w : World) (R : Int → Int → World → Prop) (h : S87 n1 w R) : C87 n1 w R := by
  have e : fnT Try.prog ⟨FF, MAY, (fun _ _ => False)⟩ pl87 Try.f87 [.int .i64 n1] w [(.one (.int .i64)), (.one (.int .i64))] (fun s w => R s.1 s.2 w) = S87 n1 w R := by kernel_rfl
  exact (fn_calls okF okM Try.func87 (by kernel_rfl) (by kernel_rfl) (e.mpr h)).mono fun _ _ ⟨s, he, hR⟩ => ⟨s.1, s.2, he, hR⟩

/-- foliant/foliantref02.nearest -/
def S88 (n1 : Int) (vby2 : Int) (w : World) (R : Int → World → Prop) : Prop :=
  vby2 ≠ 0 ∧ vby2 ≠ 0 ∧ Br (decide ((Int.tmod n1 vby2) < 0)) (Lt (decide ((IntKind.i64.wrap ((Int.tmod n1 vby2) + vby2)) ≥ (IntKind.i64.wrap (vby2 - (IntKind.i64.wrap ((Int.tmod n1 vby2) + vby2)))))) fun (x3 : Bool) =>
    Br x3 (R (IntKind.i64.wrap ((IntKind.i64.wrap ((IntKind.i64.wrap (Int.tdiv n1 vby2)) - 1)) + 1)) w) (R (IntKind.i64.wrap ((IntKind.i64.wrap (Int.tdiv n1 vby2)) - 1)) w)) (Br (decide ((Int.tmod n1 vby2) ≥ (IntKind.i64.wrap (vby2 - (Int.tmod n1 vby2))))) (R (IntKind.i64.wrap ((IntKind.i64.wrap (Int.tdiv n1 vby2)) + 1)) w) (R (IntKind.i64.wrap (Int.tdiv n1 vby2)) w))
def C88 (n1 : Int) (vby2 : Int) (w : World) (R : Int → World → Prop) : Prop :=
  Calls Try.prog 88 #[.int .i64 n1, .int .i64 vby2] w fun e w' => ∃ r0 : Int, e = .returned (.int .i64 r0) ∧ R r0 w'
theorem C88.mono {n1 : Int} {vby2 : Int} {w : World} {R R' : Int → World → Prop} (h : C88 n1 vby2 w R) (hr : ∀ r0 w', R r0 w' → R' r0 w') : C88 n1 vby2 w R' :=
  Calls.mono h fun _ _ ⟨r0, he, hR⟩ => ⟨r0, he, hr _ _ hR⟩
def pl88 : Plan := (.seq (.reg .seq) (.seq (.reg .seq) (.seq (.reg .seq) (.seq (.seq (.reg .seq) (.cond (.seq (.reg .seq) (.reg .seq)) .leaf)) (.seq (.seq (.reg .seq) (.cond (.reg .seq) .leaf)) (.seq (.reg .seq) .leaf))))))
set_option maxRecDepth 100000 in
theorem T88 (n1 : Int) (vby2 : Int) (w : World) (R : Int → World → Prop) (h : S88 n1 vby2 w R) : C88 n1 vby2 w R := by
  have e : fnT Try.prog ⟨FF, MAY, (fun _ _ => False)⟩ pl88 Try.f88 [.int .i64 n1, .int .i64 vby2] w [(.one (.int .i64))] (fun s w => R s w) = S88 n1 vby2 w R := by kernel_rfl
  exact (fn_calls okF okM Try.func88 (by kernel_rfl) (by kernel_rfl) (e.mpr h)).mono fun _ _ ⟨s, he, hR⟩ => ⟨s, he, hR⟩

def S49L1 (l1 : Slc) (R : Int → Int → World → Prop) (I27 : (Int × Int) → World → Prop) (s25 : Int × Int) (vw26 : World) : Prop :=
  Br (decide ((IntKind.i64.wrap (s25.2 + 1)) < ((l1.len : Nat) : Int))) (0 ≤ s25.2 ∧ s25.2 < (l1.len : Nat) ∧ Nn l1.p fun a28 =>
    Ld vw26 (a28.add ((s25.2).toNat * 1)) (Value.int .i64) fun (x29 : Int) =>
    C86 x29 vw26 fun r30 vw31 =>
      Br (!r30) (R 0 2 vw31) (0 ≤ (IntKind.i64.wrap (s25.2 + 1)) ∧ (IntKind.i64.wrap (s25.2 + 1)) < (l1.len : Nat) ∧ Nn l1.p fun a32 =>
        Ld vw31 (a32.add ((IntKind.i64.wrap (s25.2 + 1)).toNat * 1)) (Value.int .i64) fun (x33 : Int) =>
        C86 x33 vw31 fun r34 vw35 =>
          Br (!r34) (R 0 2 vw35) (0 ≤ s25.2 ∧ s25.2 < (l1.len : Nat) ∧ Nn l1.p fun a36 =>
            Ld vw35.drew (a36.add ((s25.2).toNat * 1)) (Value.int .i64) fun (x37 : Int) =>
            0 ≤ (IntKind.i64.wrap (s25.2 + 1)) ∧ (IntKind.i64.wrap (s25.2 + 1)) < (l1.len : Nat) ∧ Nn l1.p fun a38 =>
            Ld vw35.drew (a38.add ((IntKind.i64.wrap (s25.2 + 1)).toNat * 1)) (Value.int .i64) fun (x39 : Int) =>
            I27 (IntKind.i64.wrap (s25.1 + (IntKind.i64.wrap (x37 * x39))), IntKind.i64.wrap (s25.2 + 2)) vw35.drew))) (C88 s25.1 10000 vw26 fun r40 vw41 =>
      C87 r40 vw41 fun r42 r43 vw44 =>
        R r42 r43 vw44)
/-- foliant/foliantref02.Dot -/
def S49 (l1 : Slc) (w : World) (R : Int → Int → World → Prop) : Prop :=
  Br ((Int.tmod ((l1.len : Nat) : Int) 2) == 1) (R 0 1 w) (Br (decide (((l1.len : Nat) : Int) > 8)) (R 0 1 w) (Lp (σ := Int × Int) (S49L1 l1 R) (0, 0) w))
def C49 (l1 : Slc) (w : World) (R : Int → Int → World → Prop) : Prop :=
  Calls Try.prog 49 #[Slc.v l1] w fun e w' => ∃ r0 : Int, ∃ r1 : Int, e = .returned (.tuple #[.int .i64 r0, .int .i64 r1]) ∧ R r0 r1 w'
theorem C49.mono {l1 : Slc} {w : World} {R R' : Int → Int → World → Prop} (h : C49 l1 w R) (hr : ∀ r0 r1 w', R r0 r1 w' → R' r0 r1 w') : C49 l1 w R' :=
  Calls.mono h fun _ _ ⟨r0, r1, he, hR⟩ => ⟨r0, r1, he, hr _ _ _ hR⟩
def pl49 : Plan := (.seq (.reg .seq) (.seq (.seq (.reg .seq) (.cond (.seq (.reg .seq) .leaf) .leaf)) (.seq (.reg .seq) (.seq (.seq (.reg .seq) (.block (.loop [(4, (.one (.int .i64))), (5, (.one (.int .i64)))] [0] (.seq (.seq (.reg .seq) (.cond .leaf .leaf)) (.seq (.block (.seq (.seq (.reg .seq) (.cond (.seq (.reg .seq) .leaf) .leaf)) (.reg .still))) (.reg .seq)))))) (.seq (.reg .seq) .leaf)))))
set_option maxRecDepth 100000 in
theorem T49 (l1 : Slc) (w : World) (R : Int → Int → World → Prop) (h : S49 l1 w R) : C49 l1 w R := by
  have e : fnT Try.prog ⟨FF, MAY, (fun _ _ => False)⟩ pl49 Try.f49 [Slc.v l1] w [(.one (.int .i64)), (.one (.int .i64))] (fun s w => R s.1 s.2 w) = S49 l1 w R := by kernel_rfl
  exact (fn_calls okF okM Try.func49 (by kernel_rfl) (by kernel_rfl) (e.mpr h)).mono fun _ _ ⟨s, he, hR⟩ => ⟨s.1, s.2, he, hR⟩

end Go.Proofs.Ytjlaijhmnlkpiaa
