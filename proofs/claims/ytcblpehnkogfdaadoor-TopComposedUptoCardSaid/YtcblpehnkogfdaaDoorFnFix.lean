/- The formulas of 9 functions of the program, written by program (gen.py); the kernel checks each. No condition. -/
import Derived.Test.YtcblpehnkogfdaaDoorFn
namespace Go.Proofs.YtcblpehnkogfdaaDoor
open Sh
set_option linter.unusedVariables false
set_option maxRecDepth 100000

def CD54 (n1 : Option Addr) (ve2 : Option Addr) (u : Option Value) (w : World) (R : World → Prop) : Prop := CallD Tryd.prog 54 #[.pointer n1, .pointer ve2] u w R
theorem CD54.mono {n1 : Option Addr} {ve2 : Option Addr} {u : Option Value} {w : World} {R R' : World → Prop} (h : CD54 n1 ve2 u w R) (hr : ∀ w', R w' → R' w') : CD54 n1 ve2 u w R' :=
  CallsD.mono h fun _ _ _ ⟨h1, h2, h3⟩ => ⟨h1, h2, hr _ h3⟩
def C69 (n1 : Int) (w : World) (R : Bool → World → Prop) : Prop :=
  Calls Tryd.prog 69 #[.int .i64 n1] w fun e w' => ∃ r0 : Bool, e = .returned (.bool r0) ∧ R r0 w'
theorem C69.mono {n1 : Int} {w : World} {R R' : Bool → World → Prop} (h : C69 n1 w R) (hr : ∀ r0 w', R r0 w' → R' r0 w') : C69 n1 w R' :=
  Calls.mono h fun _ _ ⟨r0, he, hR⟩ => ⟨r0, he, hr _ _ hR⟩
def C55 (l1 : Slc) (w : World) (R : World → Prop) (PR : Value → World → Prop) : Prop :=
  Calls Tryd.prog 55 #[Slc.v l1] w fun e w' => (e = .returned (.tuple #[]) ∧ R w') ∨ ∃ v, e = .panicked (onePanic v) ∧ PR v w'
theorem C55.mono {l1 : Slc} {w : World} {R R' : World → Prop} {PR PR' : Value → World → Prop} (h : C55 l1 w R PR) (hr : ∀ w', R w' → R' w') (hp : ∀ v w', PR v w' → PR' v w') : C55 l1 w R' PR' :=
  Calls.mono h fun _ _ he => he.elim (fun ⟨he, hR⟩ => .inl ⟨he, hr _ hR⟩) fun ⟨v, he, hP⟩ => .inr ⟨v, he, hp _ _ hP⟩
def C56 (n1 : Int) (w : World) (R : Int → World → Prop) (PR : Value → World → Prop) : Prop :=
  Calls Tryd.prog 56 #[.int .i64 n1] w fun e w' => (∃ r0 : Int, e = .returned (.int .i64 r0) ∧ R r0 w') ∨ ∃ v, e = .panicked (onePanic v) ∧ PR v w'
theorem C56.mono {n1 : Int} {w : World} {R R' : Int → World → Prop} {PR PR' : Value → World → Prop} (h : C56 n1 w R PR) (hr : ∀ r0 w', R r0 w' → R' r0 w') (hp : ∀ v w', PR v w' → PR' v w') : C56 n1 w R' PR' :=
  Calls.mono h fun _ _ he => he.elim (fun ⟨r0, he, hR⟩ => .inl ⟨r0, he, hr _ _ hR⟩) fun ⟨v, he, hP⟩ => .inr ⟨v, he, hp _ _ hP⟩
def C57 (n1 : Int) (vby2 : Int) (w : World) (R : Int → World → Prop) : Prop :=
  Calls Tryd.prog 57 #[.int .i64 n1, .int .i64 vby2] w fun e w' => ∃ r0 : Int, e = .returned (.int .i64 r0) ∧ R r0 w'
theorem C57.mono {n1 : Int} {vby2 : Int} {w : World} {R R' : Int → World → Prop} (h : C57 n1 vby2 w R) (hr : ∀ r0 w', R r0 w' → R' r0 w') : C57 n1 vby2 w R' :=
  Calls.mono h fun _ _ ⟨r0, he, hR⟩ => ⟨r0, he, hr _ _ hR⟩
def C37 (l1 : Slc) (w : World) (R : Int → Int → World → Prop) : Prop :=
  Calls Tryd.prog 37 #[Slc.v l1] w fun e w' => ∃ r0 : Int, ∃ r1 : Int, e = .returned (.tuple #[.int .i64 r0, .int .i64 r1]) ∧ R r0 r1 w'
theorem C37.mono {l1 : Slc} {w : World} {R R' : Int → Int → World → Prop} (h : C37 l1 w R) (hr : ∀ r0 r1 w', R r0 r1 w' → R' r0 r1 w') : C37 l1 w R' :=
  Calls.mono h fun _ _ ⟨r0, r1, he, hR⟩ => ⟨r0, r1, he, hr _ _ _ hR⟩
def C44 (l1 : Slc) (w : World) (R : Int → Int → World → Prop) : Prop :=
  Calls Tryd.prog 44 #[Slc.v l1] w fun e w' => ∃ r0 : Int, ∃ r1 : Int, e = .returned (.tuple #[.int .i64 r0, .int .i64 r1]) ∧ R r0 r1 w'
theorem C44.mono {l1 : Slc} {w : World} {R R' : Int → Int → World → Prop} (h : C44 l1 w R) (hr : ∀ r0 r1 w', R r0 r1 w' → R' r0 r1 w') : C44 l1 w R' :=
  Calls.mono h fun _ _ ⟨r0, r1, he, hR⟩ => ⟨r0, r1, he, hr _ _ _ hR⟩
def C45 (a1 : Int) (b2 : Int) (w : World) (R : Int → Int → World → Prop) : Prop :=
  Calls Tryd.prog 45 #[.int .i64 a1, .int .i64 b2] w fun e w' => ∃ r0 : Int, ∃ r1 : Int, e = .returned (.tuple #[.int .i64 r0, .int .i64 r1]) ∧ R r0 r1 w'
theorem C45.mono {a1 : Int} {b2 : Int} {w : World} {R R' : Int → Int → World → Prop} (h : C45 a1 b2 w R) (hr : ∀ r0 r1 w', R r0 r1 w' → R' r0 r1 w') : C45 a1 b2 w R' :=
  Calls.mono h fun _ _ ⟨r0, r1, he, hR⟩ => ⟨r0, r1, he, hr _ _ _ hR⟩
def C63 (n1 : Int) (vby2 : Int) (w : World) (R : Int → Int → World → Prop) : Prop :=
  Calls Tryd.prog 63 #[.int .i64 n1, .int .i64 vby2] w fun e w' => ∃ r0 : Int, ∃ r1 : Int, e = .returned (.tuple #[.int .i64 r0, .int .i64 r1]) ∧ R r0 r1 w'
theorem C63.mono {n1 : Int} {vby2 : Int} {w : World} {R R' : Int → Int → World → Prop} (h : C63 n1 vby2 w R) (hr : ∀ r0 r1 w', R r0 r1 w' → R' r0 r1 w') : C63 n1 vby2 w R' :=
  Calls.mono h fun _ _ ⟨r0, r1, he, hR⟩ => ⟨r0, r1, he, hr _ _ _ hR⟩

/-- foliant/fix.face -/
def S54_nil (n1 : Option Addr) (ve2 : Option Addr) (w : World) (R : World → Prop) : Prop :=
  R w
def pl54_nil : Plan := (.block (.seq (.reg .seq) (.cond (.reg .seq) (.seq (.reg .seq) (.cond (.seq (.reg .seq) (.reg .seq)) (.seq (.reg .seq) (.reg .seq)))))))
set_option maxRecDepth 100000 in
theorem T54_nil (n1 : Option Addr) (ve2 : Option Addr) (w : World) (R : World → Prop) (h : S54_nil n1 ve2 w R) : CD54 n1 ve2 none w R := by
  have e : fnTS Tryd.prog FF MAY pl54_nil Tryd.f54 [.pointer n1, .pointer ve2] none w R = S54_nil n1 ve2 w R := by kernel_rfl
  exact fnS_calls okF okM Tryd.func54 (by kernel_rfl) (by kernel_rfl) (e.mpr h)

/-- foliant/fix.face -/
def S54_T121 (n1 : Option Addr) (ve2 : Option Addr) (u3 : Int) (w : World) (R : World → Prop) : Prop :=
  Nn n1 fun a4 =>
  St w a4 (.int .i64 0) fun vw5 =>
  Nn ve2 fun a6 =>
  St vw5 a6 (.int .i64 u3) fun vw7 =>
  R vw7
def pl54_T121 : Plan := (.block (.seq (.reg .seq) (.cond (.reg .seq) (.seq (.reg .seq) (.cond (.seq (.reg .seq) (.reg .seq)) (.seq (.reg .seq) (.reg .seq)))))))
set_option maxRecDepth 100000 in
theorem T54_T121 (n1 : Option Addr) (ve2 : Option Addr) (u3 : Int) (w : World) (R : World → Prop) (h : S54_T121 n1 ve2 u3 w R) : CD54 n1 ve2 (some (.iface 121 (.int .i64 u3))) w R := by
  have e : fnTS Tryd.prog FF MAY pl54_T121 Tryd.f54 [.pointer n1, .pointer ve2] (some (.iface 121 (.int .i64 u3))) w R = S54_T121 n1 ve2 u3 w R := by kernel_rfl
  exact fnS_calls okF okM Tryd.func54 (by kernel_rfl) (by kernel_rfl) (e.mpr h)

/-- foliant/fix.within -/
def S69 (n1 : Int) (w : World) (R : Bool → World → Prop) : Prop :=
  Br (decide (n1 ≥ (-1073741824))) (R (decide (n1 ≤ 1073741824)) w) (R false w)
def pl69 : Plan := (.seq (.reg .seq) (.seq (.reg .seq) .leaf))
set_option maxRecDepth 100000 in
theorem T69 (n1 : Int) (w : World) (R : Bool → World → Prop) (h : S69 n1 w R) : C69 n1 w R := by
  have e : fnT Tryd.prog ⟨FF, MAY, (fun _ _ => False)⟩ pl69 Tryd.f69 [.int .i64 n1] w [(.one .bool)] (fun s w => R s w) = S69 n1 w R := by kernel_rfl
  exact (fn_calls okF okM Tryd.func69 (by kernel_rfl) (by kernel_rfl) (e.mpr h)).mono fun _ _ ⟨s, he, hR⟩ => ⟨s, he, hR⟩

def S55L1 (l1 : Slc) (R : World → Prop) (PR : Value → World → Prop) (I4 : Int → World → Prop) (s2 : Int) (vw3 : World) : Prop :=
  Br (decide (s2 < ((l1.len : Nat) : Int))) (0 ≤ s2 ∧ s2 < (l1.len : Nat) ∧ Nn l1.p fun a5 =>
    Ld vw3 (a5.add ((s2).toNat * 1)) (Value.int .i64) fun (x6 : Int) =>
    C69 x6 vw3 fun r7 vw8 =>
      Br (!r7) (PR (.iface 121 (.int .i64 2)) vw8) (I4 (IntKind.i64.wrap (s2 + 1)) vw8)) (R vw3)
/-- foliant/fix.bounded -/
def S55 (l1 : Slc) (w : World) (R : World → Prop) (PR : Value → World → Prop) : Prop :=
  Lp (σ := Int) (S55L1 l1 R PR) 0 w
def pl55 : Plan := (.seq (.reg .seq) (.block (.loop [(6, (.one (.int .i64)))] [4, 5] (.seq (.reg .seq) (.seq (.cond .leaf .leaf) (.seq (.block (.seq (.reg .seq) (.seq (.reg .seq) (.cond (.reg .seq) .leaf)))) (.reg .seq)))))))
set_option maxRecDepth 100000 in
theorem T55 (l1 : Slc) (w : World) (R : World → Prop) (PR : Value → World → Prop) (h : S55 l1 w R PR) : C55 l1 w R PR := by
  have e : fnT Tryd.prog ⟨FF, MAY, PR⟩ pl55 Tryd.f55 [Slc.v l1] w [] (fun _ w => R w) = S55 l1 w R PR := by kernel_rfl
  exact (fn_callsP okF okM Tryd.func55 (by kernel_rfl) (by kernel_rfl) (e.mpr h)).mono fun _ _ he => he.elim (fun ⟨_, he, hR⟩ => .inl ⟨he, hR⟩) .inr

/-- foliant/fix.answer -/
def S56 (n1 : Int) (w : World) (R : Int → World → Prop) (PR : Value → World → Prop) : Prop :=
  Nw w (.cells #[.int .i64 n1] 2) fun vw2 =>
  C55 (⟨some ⟨w.heap.size, 0, none⟩, 1, 1⟩ : Slc) vw2 (fun vw3 =>
    R n1 vw3) PR
def pl56 : Plan := (.seq (.reg .seq) (.seq (.reg .seq) (.seq (.reg .seq) .leaf)))
set_option maxRecDepth 100000 in
theorem T56 (n1 : Int) (w : World) (R : Int → World → Prop) (PR : Value → World → Prop) (h : S56 n1 w R PR) : C56 n1 w R PR := by
  have e : fnT Tryd.prog ⟨FF, MAY, PR⟩ pl56 Tryd.f56 [.int .i64 n1] w [(.one (.int .i64))] (fun s w => R s w) = S56 n1 w R PR := by kernel_rfl
  exact (fn_callsP okF okM Tryd.func56 (by kernel_rfl) (by kernel_rfl) (e.mpr h)).mono fun _ _ he => he.elim (fun ⟨s, he, hR⟩ => .inl ⟨s, he, hR⟩) .inr

/-- foliant/fix.nearest -/
def S57 (n1 : Int) (vby2 : Int) (w : World) (R : Int → World → Prop) : Prop :=
  vby2 ≠ 0 ∧ vby2 ≠ 0 ∧ Br (decide ((Int.tmod n1 vby2) < 0)) (Lt (decide ((IntKind.i64.wrap ((Int.tmod n1 vby2) + vby2)) ≥ (IntKind.i64.wrap (vby2 - (IntKind.i64.wrap ((Int.tmod n1 vby2) + vby2)))))) fun (x3 : Bool) =>
    Br x3 (R (IntKind.i64.wrap ((IntKind.i64.wrap ((IntKind.i64.wrap (Int.tdiv n1 vby2)) - 1)) + 1)) w.drew) (R (IntKind.i64.wrap ((IntKind.i64.wrap (Int.tdiv n1 vby2)) - 1)) w.drew)) (Br (decide ((Int.tmod n1 vby2) ≥ (IntKind.i64.wrap (vby2 - (Int.tmod n1 vby2))))) (R (IntKind.i64.wrap ((IntKind.i64.wrap (Int.tdiv n1 vby2)) + 1)) w.drew) (R (IntKind.i64.wrap (Int.tdiv n1 vby2)) w.drew))
def pl57 : Plan := (.seq (.reg .seq) (.seq (.reg .still) (.seq (.seq (.reg .seq) (.cond (.reg .seq) .leaf)) (.seq (.seq (.reg .seq) (.cond (.reg .seq) .leaf)) (.seq (.reg .seq) .leaf)))))
set_option maxRecDepth 100000 in
theorem T57 (n1 : Int) (vby2 : Int) (w : World) (R : Int → World → Prop) (h : S57 n1 vby2 w R) : C57 n1 vby2 w R := by
  have e : fnT Tryd.prog ⟨FF, MAY, (fun _ _ => False)⟩ pl57 Tryd.f57 [.int .i64 n1, .int .i64 vby2] w [(.one (.int .i64))] (fun s w => R s w) = S57 n1 vby2 w R := by kernel_rfl
  exact (fn_calls okF okM Tryd.func57 (by kernel_rfl) (by kernel_rfl) (e.mpr h)).mono fun _ _ ⟨s, he, hR⟩ => ⟨s, he, hR⟩

def S37P (w : World) (vw2 : World) (R : Int → Int → World → Prop) (x5 : Value) (vw4 : World) : Prop :=
  CD54 (some (⟨w.heap.size, 0, none⟩ : Addr)) (some (⟨vw2.heap.size, 0, none⟩ : Addr)) (some x5) vw4 fun vw6 =>
    Ld vw6 (⟨w.heap.size, 0, none⟩ : Addr) (Value.int .i64) fun (x7 : Int) =>
    Ld vw6 (⟨vw2.heap.size, 0, none⟩ : Addr) (Value.int .i64) fun (x8 : Int) =>
    R x7 x8 vw6
def S37L1 (w : World) (l1 : Slc) (vw2 : World) (R : Int → Int → World → Prop) (I35 : Int → World → Prop) (s33 : Int) (vw34 : World) : Prop :=
  Br (decide (s33 < ((l1.len : Nat) : Int))) (Ld vw34.drew (⟨w.heap.size, 0, none⟩ : Addr) (Value.int .i64) fun (x36 : Int) =>
    0 ≤ s33 ∧ s33 < (l1.len : Nat) ∧ Nn l1.p fun a37 =>
    Ld vw34.drew (a37.add ((s33).toNat * 1)) (Value.int .i64) fun (x38 : Int) =>
    0 ≤ (IntKind.i64.wrap (s33 + 1)) ∧ (IntKind.i64.wrap (s33 + 1)) < (l1.len : Nat) ∧ Nn l1.p fun a39 =>
    Ld vw34.drew (a39.add ((IntKind.i64.wrap (s33 + 1)).toNat * 1)) (Value.int .i64) fun (x40 : Int) =>
    St vw34.drew (⟨w.heap.size, 0, none⟩ : Addr) (.int .i64 (IntKind.i64.wrap (x36 + (IntKind.i64.wrap (x38 * x40))))) fun vw41 =>
    I35 (IntKind.i64.wrap (s33 + 2)) vw41) (Ld vw34 (⟨w.heap.size, 0, none⟩ : Addr) (Value.int .i64) fun (x42 : Int) =>
    C57 x42 10000 vw34 fun r43 vw44 =>
      C56 r43 vw44 (fun r45 vw46 =>
        St vw46 (⟨w.heap.size, 0, none⟩ : Addr) (.int .i64 r45) fun vw47 =>
        St vw47 (⟨vw2.heap.size, 0, none⟩ : Addr) (.int .i64 0) fun vw48 =>
        CD54 (some (⟨w.heap.size, 0, none⟩ : Addr)) (some (⟨vw2.heap.size, 0, none⟩ : Addr)) none vw48 fun vw49 =>
          Ld vw49 (⟨w.heap.size, 0, none⟩ : Addr) (Value.int .i64) fun (x50 : Int) =>
          Ld vw49 (⟨vw2.heap.size, 0, none⟩ : Addr) (Value.int .i64) fun (x51 : Int) =>
          R x50 x51 vw49) (S37P w vw2 R))
/-- foliant/fix.Dot -/
def S37 (l1 : Slc) (w : World) (R : Int → Int → World → Prop) : Prop :=
  Nw w (.cells #[.int .i64 0] 2) fun vw2 =>
  Nw vw2 (.cells #[.int .i64 0] 38) fun vw3 =>
  Br ((Int.tmod ((l1.len : Nat) : Int) 2) != 0) (St vw3 (⟨w.heap.size, 0, none⟩ : Addr) (.int .i64 0) fun vw13 =>
    St vw13 (⟨vw2.heap.size, 0, none⟩ : Addr) (.int .i64 1) fun vw14 =>
    CD54 (some (⟨w.heap.size, 0, none⟩ : Addr)) (some (⟨vw2.heap.size, 0, none⟩ : Addr)) none vw14 fun vw15 =>
      Ld vw15 (⟨w.heap.size, 0, none⟩ : Addr) (Value.int .i64) fun (x16 : Int) =>
      Ld vw15 (⟨vw2.heap.size, 0, none⟩ : Addr) (Value.int .i64) fun (x17 : Int) =>
      R x16 x17 vw15) (Br (decide (((l1.len : Nat) : Int) > 8)) (St vw3 (⟨w.heap.size, 0, none⟩ : Addr) (.int .i64 0) fun vw18 =>
      St vw18 (⟨vw2.heap.size, 0, none⟩ : Addr) (.int .i64 1) fun vw19 =>
      CD54 (some (⟨w.heap.size, 0, none⟩ : Addr)) (some (⟨vw2.heap.size, 0, none⟩ : Addr)) none vw19 fun vw20 =>
        Ld vw20 (⟨w.heap.size, 0, none⟩ : Addr) (Value.int .i64) fun (x21 : Int) =>
        Ld vw20 (⟨vw2.heap.size, 0, none⟩ : Addr) (Value.int .i64) fun (x22 : Int) =>
        R x21 x22 vw20) (C55 l1 vw3 (fun vw23 =>
        Lp (σ := Int) (S37L1 w l1 vw2 R) 0 vw23) (S37P w vw2 R)))
def pl37 : DPlan := (.pre (.reg .seq) (.here [2, 3] (.seq (.seq (.reg .seq) (.cond (.seq (.reg .seq) .leaf) .leaf)) (.seq (.reg .seq) (.seq (.seq (.reg .seq) (.block (.loop [(4, (.one (.int .i64)))] [0, 2, 3] (.seq (.seq (.reg .seq) (.cond .leaf .leaf)) (.seq (.block (.reg (.tail 12))) (.reg .seq)))))) (.seq (.reg .seq) .leaf))))))
set_option maxRecDepth 100000 in
theorem T37 (l1 : Slc) (w : World) (R : Int → Int → World → Prop) (h : S37 l1 w R) : C37 l1 w R := by
  have e : fnTD Tryd.prog FF MAY (fun _ _ => False) pl37 Tryd.f37 [Slc.v l1] w [(.one (.int .i64)), (.one (.int .i64))] (fun s w => R s.1 s.2 w) = S37 l1 w R := by kernel_rfl
  exact (fnD_calls okF okM Tryd.func37 (by kernel_rfl) (by kernel_rfl) (e.mpr h)).mono fun _ _ ⟨s, he, hR⟩ => ⟨s.1, s.2, he, hR⟩

def S44P (w : World) (vw2 : World) (R : Int → Int → World → Prop) (x5 : Value) (vw4 : World) : Prop :=
  CD54 (some (⟨w.heap.size, 0, none⟩ : Addr)) (some (⟨vw2.heap.size, 0, none⟩ : Addr)) (some x5) vw4 fun vw6 =>
    Ld vw6 (⟨w.heap.size, 0, none⟩ : Addr) (Value.int .i64) fun (x7 : Int) =>
    Ld vw6 (⟨vw2.heap.size, 0, none⟩ : Addr) (Value.int .i64) fun (x8 : Int) =>
    R x7 x8 vw6
def S44L1 (w : World) (l1 : Slc) (vw2 : World) (R : Int → Int → World → Prop) (I12 : Int → World → Prop) (s10 : Int) (vw11 : World) : Prop :=
  Br (decide (s10 < ((l1.len : Nat) : Int))) (0 ≤ s10 ∧ s10 < (l1.len : Nat) ∧ Nn l1.p fun a13 =>
    Ld vw11 (a13.add ((s10).toNat * 1)) (Value.int .i64) fun (x14 : Int) =>
    Ld vw11 (⟨w.heap.size, 0, none⟩ : Addr) (Value.int .i64) fun (x15 : Int) =>
    St vw11 (⟨w.heap.size, 0, none⟩ : Addr) (.int .i64 (IntKind.i64.wrap (x15 + x14))) fun vw16 =>
    I12 (IntKind.i64.wrap (s10 + 1)) vw16) (Ld vw11 (⟨w.heap.size, 0, none⟩ : Addr) (Value.int .i64) fun (x17 : Int) =>
    C56 x17 vw11 (fun r18 vw19 =>
      St vw19 (⟨w.heap.size, 0, none⟩ : Addr) (.int .i64 r18) fun vw20 =>
      St vw20 (⟨vw2.heap.size, 0, none⟩ : Addr) (.int .i64 0) fun vw21 =>
      CD54 (some (⟨w.heap.size, 0, none⟩ : Addr)) (some (⟨vw2.heap.size, 0, none⟩ : Addr)) none vw21 fun vw22 =>
        Ld vw22 (⟨w.heap.size, 0, none⟩ : Addr) (Value.int .i64) fun (x23 : Int) =>
        Ld vw22 (⟨vw2.heap.size, 0, none⟩ : Addr) (Value.int .i64) fun (x24 : Int) =>
        R x23 x24 vw22) (S44P w vw2 R))
/-- foliant/fix.Sum -/
def S44 (l1 : Slc) (w : World) (R : Int → Int → World → Prop) : Prop :=
  Nw w (.cells #[.int .i64 0] 2) fun vw2 =>
  Nw vw2 (.cells #[.int .i64 0] 38) fun vw3 =>
  C55 l1 vw3 (fun vw9 =>
    Lp (σ := Int) (S44L1 w l1 vw2 R) 0 vw9) (S44P w vw2 R)
def pl44 : DPlan := (.pre (.reg .seq) (.here [2, 3] (.seq (.reg .seq) (.seq (.seq (.reg .seq) (.block (.loop [(10, (.one (.int .i64)))] [2, 3, 8, 9] (.seq (.reg .seq) (.seq (.cond .leaf .leaf) (.seq (.block (.seq (.reg .seq) (.reg .seq))) (.reg .seq))))))) (.seq (.reg .seq) .leaf)))))
set_option maxRecDepth 100000 in
theorem T44 (l1 : Slc) (w : World) (R : Int → Int → World → Prop) (h : S44 l1 w R) : C44 l1 w R := by
  have e : fnTD Tryd.prog FF MAY (fun _ _ => False) pl44 Tryd.f44 [Slc.v l1] w [(.one (.int .i64)), (.one (.int .i64))] (fun s w => R s.1 s.2 w) = S44 l1 w R := by kernel_rfl
  exact (fnD_calls okF okM Tryd.func44 (by kernel_rfl) (by kernel_rfl) (e.mpr h)).mono fun _ _ ⟨s, he, hR⟩ => ⟨s.1, s.2, he, hR⟩

def S45P (w : World) (vw3 : World) (R : Int → Int → World → Prop) (x6 : Value) (vw5 : World) : Prop :=
  CD54 (some (⟨w.heap.size, 0, none⟩ : Addr)) (some (⟨vw3.heap.size, 0, none⟩ : Addr)) (some x6) vw5 fun vw7 =>
    Ld vw7 (⟨w.heap.size, 0, none⟩ : Addr) (Value.int .i64) fun (x8 : Int) =>
    Ld vw7 (⟨vw3.heap.size, 0, none⟩ : Addr) (Value.int .i64) fun (x9 : Int) =>
    R x8 x9 vw7
/-- foliant/fix.Mul -/
def S45 (a1 : Int) (b2 : Int) (w : World) (R : Int → Int → World → Prop) : Prop :=
  Nw w (.cells #[.int .i64 0] 2) fun vw3 =>
  Nw vw3 (.cells #[.int .i64 0] 38) fun vw4 =>
  Nw vw4 (.cells #[.int .i64 a1, .int .i64 b2] 2) fun vw10 =>
  C55 (⟨some ⟨vw4.heap.size, 0, none⟩, 2, 2⟩ : Slc) vw10 (fun vw11 =>
    C57 (IntKind.i64.wrap (a1 * b2)) 10000 vw11 fun r12 vw13 =>
      C56 r12 vw13 (fun r14 vw15 =>
        St vw15 (⟨w.heap.size, 0, none⟩ : Addr) (.int .i64 r14) fun vw16 =>
        St vw16 (⟨vw3.heap.size, 0, none⟩ : Addr) (.int .i64 0) fun vw17 =>
        CD54 (some (⟨w.heap.size, 0, none⟩ : Addr)) (some (⟨vw3.heap.size, 0, none⟩ : Addr)) none vw17 fun vw18 =>
          Ld vw18 (⟨w.heap.size, 0, none⟩ : Addr) (Value.int .i64) fun (x19 : Int) =>
          Ld vw18 (⟨vw3.heap.size, 0, none⟩ : Addr) (Value.int .i64) fun (x20 : Int) =>
          R x19 x20 vw18) (S45P w vw3 R)) (S45P w vw3 R)
def pl45 : DPlan := (.pre (.reg .seq) (.here [4, 5] (.seq (.reg .seq) (.seq (.reg .seq) .leaf))))
set_option maxRecDepth 100000 in
theorem T45 (a1 : Int) (b2 : Int) (w : World) (R : Int → Int → World → Prop) (h : S45 a1 b2 w R) : C45 a1 b2 w R := by
  have e : fnTD Tryd.prog FF MAY (fun _ _ => False) pl45 Tryd.f45 [.int .i64 a1, .int .i64 b2] w [(.one (.int .i64)), (.one (.int .i64))] (fun s w => R s.1 s.2 w) = S45 a1 b2 w R := by kernel_rfl
  exact (fnD_calls okF okM Tryd.func45 (by kernel_rfl) (by kernel_rfl) (e.mpr h)).mono fun _ _ ⟨s, he, hR⟩ => ⟨s.1, s.2, he, hR⟩

/-- foliant/fix.Near -/
def S63 (n1 : Int) (vby2 : Int) (w : World) (R : Int → Int → World → Prop) : Prop :=
  Br (decide (vby2 < 1)) (R 0 1 w) (Br (decide (n1 < (-4611686018427387904))) (R 0 2 w) (Br (decide (n1 > 4611686018427387904)) (R 0 2 w) (C57 n1 vby2 w fun r3 vw4 =>
          R r3 0 vw4)))
def pl63 : Plan := (.seq (.reg .seq) (.seq (.block (.seq (.reg .seq) (.cond (.seq (.reg .seq) .leaf) (.seq (.reg .seq) (.cond (.seq (.reg .seq) .leaf) .leaf))))) (.seq (.reg .seq) .leaf)))
set_option maxRecDepth 100000 in
theorem T63 (n1 : Int) (vby2 : Int) (w : World) (R : Int → Int → World → Prop) (h : S63 n1 vby2 w R) : C63 n1 vby2 w R := by
  have e : fnT Tryd.prog ⟨FF, MAY, (fun _ _ => False)⟩ pl63 Tryd.f63 [.int .i64 n1, .int .i64 vby2] w [(.one (.int .i64)), (.one (.int .i64))] (fun s w => R s.1 s.2 w) = S63 n1 vby2 w R := by kernel_rfl
  exact (fn_calls okF okM Tryd.func63 (by kernel_rfl) (by kernel_rfl) (e.mpr h)).mono fun _ _ ⟨s, he, hR⟩ => ⟨s.1, s.2, he, hR⟩

end Go.Proofs.YtcblpehnkogfdaaDoor
