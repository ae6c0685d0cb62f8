/- The formulas of 12 functions of the program, written by program (gen.py); the kernel checks each. No condition. -/
import Derived.Test.YtjbeembbnkmpeaaDoorFn
namespace Go.Proofs.YtjbeembbnkmpeaaDoor
open Sh
set_option linter.unusedVariables false
set_option maxRecDepth 100000

def CD176 (n1 : Option Addr) (ve2 : Option Addr) (u : Option Value) (w : World) (R : World → Prop) : Prop := CallD Tryd.prog 176 #[.pointer n1, .pointer ve2] u w R
theorem CD176.mono {n1 : Option Addr} {ve2 : Option Addr} {u : Option Value} {w : World} {R R' : World → Prop} (h : CD176 n1 ve2 u w R) (hr : ∀ w', R w' → R' w') : CD176 n1 ve2 u w R' :=
  CallsD.mono h fun _ _ _ ⟨h1, h2, h3⟩ => ⟨h1, h2, hr _ h3⟩
def C201 (n1 : Int) (w : World) (R : Bool → World → Prop) : Prop :=
  Calls Tryd.prog 201 #[.int .i64 n1] w fun e w' => ∃ r0 : Bool, e = .returned (.bool r0) ∧ R r0 w'
theorem C201.mono {n1 : Int} {w : World} {R R' : Bool → World → Prop} (h : C201 n1 w R) (hr : ∀ r0 w', R r0 w' → R' r0 w') : C201 n1 w R' :=
  Calls.mono h fun _ _ ⟨r0, he, hR⟩ => ⟨r0, he, hr _ _ hR⟩
def C177 (l1 : Slc) (w : World) (R : World → Prop) (PR : Value → World → Prop) : Prop :=
  Calls Tryd.prog 177 #[Slc.v l1] w fun e w' => (e = .returned (.tuple #[]) ∧ R w') ∨ ∃ v, e = .panicked (onePanic v) ∧ PR v w'
theorem C177.mono {l1 : Slc} {w : World} {R R' : World → Prop} {PR PR' : Value → World → Prop} (h : C177 l1 w R PR) (hr : ∀ w', R w' → R' w') (hp : ∀ v w', PR v w' → PR' v w') : C177 l1 w R' PR' :=
  Calls.mono h fun _ _ he => he.elim (fun ⟨he, hR⟩ => .inl ⟨he, hr _ hR⟩) fun ⟨v, he, hP⟩ => .inr ⟨v, he, hp _ _ hP⟩
def C178 (n1 : Int) (w : World) (R : Int → World → Prop) (PR : Value → World → Prop) : Prop :=
  Calls Tryd.prog 178 #[.int .i64 n1] w fun e w' => (∃ r0 : Int, e = .returned (.int .i64 r0) ∧ R r0 w') ∨ ∃ v, e = .panicked (onePanic v) ∧ PR v w'
theorem C178.mono {n1 : Int} {w : World} {R R' : Int → World → Prop} {PR PR' : Value → World → Prop} (h : C178 n1 w R PR) (hr : ∀ r0 w', R r0 w' → R' r0 w') (hp : ∀ v w', PR v w' → PR' v w') : C178 n1 w R' PR' :=
  Calls.mono h fun _ _ he => he.elim (fun ⟨r0, he, hR⟩ => .inl ⟨r0, he, hr _ _ hR⟩) fun ⟨v, he, hP⟩ => .inr ⟨v, he, hp _ _ hP⟩
def C179 (n1 : Int) (vby2 : Int) (w : World) (R : Int → World → Prop) : Prop :=
  Calls Tryd.prog 179 #[.int .i64 n1, .int .i64 vby2] w fun e w' => ∃ r0 : Int, e = .returned (.int .i64 r0) ∧ R r0 w'
theorem C179.mono {n1 : Int} {vby2 : Int} {w : World} {R R' : Int → World → Prop} (h : C179 n1 vby2 w R) (hr : ∀ r0 w', R r0 w' → R' r0 w') : C179 n1 vby2 w R' :=
  Calls.mono h fun _ _ ⟨r0, he, hR⟩ => ⟨r0, he, hr _ _ hR⟩
def C125 (l1 : Slc) (w : World) (R : Int → Int → World → Prop) : Prop :=
  Calls Tryd.prog 125 #[Slc.v l1] w fun e w' => ∃ r0 : Int, ∃ r1 : Int, e = .returned (.tuple #[.int .i64 r0, .int .i64 r1]) ∧ R r0 r1 w'
theorem C125.mono {l1 : Slc} {w : World} {R R' : Int → Int → World → Prop} (h : C125 l1 w R) (hr : ∀ r0 r1 w', R r0 r1 w' → R' r0 r1 w') : C125 l1 w R' :=
  Calls.mono h fun _ _ ⟨r0, r1, he, hR⟩ => ⟨r0, r1, he, hr _ _ _ hR⟩
def C159 (n1 : Int) (w : World) (R : Bool → World → Prop) : Prop :=
  Calls Tryd.prog 159 #[.int .i64 n1] w fun e w' => ∃ r0 : Bool, e = .returned (.bool r0) ∧ R r0 w'
theorem C159.mono {n1 : Int} {w : World} {R R' : Bool → World → Prop} (h : C159 n1 w R) (hr : ∀ r0 w', R r0 w' → R' r0 w') : C159 n1 w R' :=
  Calls.mono h fun _ _ ⟨r0, he, hR⟩ => ⟨r0, he, hr _ _ hR⟩
def C160 (n1 : Int) (w : World) (R : Int → Int → World → Prop) : Prop :=
  Calls Tryd.prog 160 #[.int .i64 n1] w fun e w' => ∃ r0 : Int, ∃ r1 : Int, e = .returned (.tuple #[.int .i64 r0, .int .i64 r1]) ∧ R r0 r1 w'
theorem C160.mono {n1 : Int} {w : World} {R R' : Int → Int → World → Prop} (h : C160 n1 w R) (hr : ∀ r0 r1 w', R r0 r1 w' → R' r0 r1 w') : C160 n1 w R' :=
  Calls.mono h fun _ _ ⟨r0, r1, he, hR⟩ => ⟨r0, r1, he, hr _ _ _ hR⟩
def C161 (n1 : Int) (vby2 : Int) (w : World) (R : Int → World → Prop) : Prop :=
  Calls Tryd.prog 161 #[.int .i64 n1, .int .i64 vby2] w fun e w' => ∃ r0 : Int, e = .returned (.int .i64 r0) ∧ R r0 w'
theorem C161.mono {n1 : Int} {vby2 : Int} {w : World} {R R' : Int → World → Prop} (h : C161 n1 vby2 w R) (hr : ∀ r0 w', R r0 w' → R' r0 w') : C161 n1 vby2 w R' :=
  Calls.mono h fun _ _ ⟨r0, he, hR⟩ => ⟨r0, he, hr _ _ hR⟩
def C107 (l1 : Slc) (w : World) (R : Int → Int → World → Prop) : Prop :=
  Calls Tryd.prog 107 #[Slc.v l1] w fun e w' => ∃ r0 : Int, ∃ r1 : Int, e = .returned (.tuple #[.int .i64 r0, .int .i64 r1]) ∧ R r0 r1 w'
theorem C107.mono {l1 : Slc} {w : World} {R R' : Int → Int → World → Prop} (h : C107 l1 w R) (hr : ∀ r0 r1 w', R r0 r1 w' → R' r0 r1 w') : C107 l1 w R' :=
  Calls.mono h fun _ _ ⟨r0, r1, he, hR⟩ => ⟨r0, r1, he, hr _ _ _ hR⟩
def C132 (l1 : Slc) (w : World) (R : Int → Int → World → Prop) : Prop :=
  Calls Tryd.prog 132 #[Slc.v l1] w fun e w' => ∃ r0 : Int, ∃ r1 : Int, e = .returned (.tuple #[.int .i64 r0, .int .i64 r1]) ∧ R r0 r1 w'
theorem C132.mono {l1 : Slc} {w : World} {R R' : Int → Int → World → Prop} (h : C132 l1 w R) (hr : ∀ r0 r1 w', R r0 r1 w' → R' r0 r1 w') : C132 l1 w R' :=
  Calls.mono h fun _ _ ⟨r0, r1, he, hR⟩ => ⟨r0, r1, he, hr _ _ _ hR⟩
def C158 (l1 : Slc) (w : World) (R : Int → Int → World → Prop) : Prop :=
  Calls Tryd.prog 158 #[Slc.v l1] w fun e w' => ∃ r0 : Int, ∃ r1 : Int, e = .returned (.tuple #[.int .i64 r0, .int .i64 r1]) ∧ R r0 r1 w'
theorem C158.mono {l1 : Slc} {w : World} {R R' : Int → Int → World → Prop} (h : C158 l1 w R) (hr : ∀ r0 r1 w', R r0 r1 w' → R' r0 r1 w') : C158 l1 w R' :=
  Calls.mono h fun _ _ ⟨r0, r1, he, hR⟩ => ⟨r0, r1, he, hr _ _ _ hR⟩

/-- foliant/fix.face -/
def S176_nil (n1 : Option Addr) (ve2 : Option Addr) (w : World) (R : World → Prop) : Prop :=
  R w
def pl176_nil : Plan := (.block (.seq (.reg .seq) (.cond (.reg .seq) (.seq (.reg .seq) (.cond (.seq (.reg .seq) (.reg .seq)) (.seq (.reg .seq) (.reg .seq)))))))
set_option maxRecDepth 100000 in
theorem T176_nil (n1 : Option Addr) (ve2 : Option Addr) (w : World) (R : World → Prop) (h : S176_nil n1 ve2 w R) : CD176 n1 ve2 none w R := by
  have e : fnTS Tryd.prog FF MAY pl176_nil Tryd.f176 [.pointer n1, .pointer ve2] none w R = S176_nil n1 ve2 w R := by kernel_rfl
  exact fnS_calls okF okM Tryd.func176 (by kernel_rfl) (by kernel_rfl) (e.mpr h)

/-- foliant/fix.face -/
def S176_T267 (n1 : Option Addr) (ve2 : Option Addr) (u3 : Int) (w : World) (R : World → Prop) : Prop :=
  Nn n1 fun a4 =>
  St w a4 (.int .i64 0) fun vw5 =>
  Nn ve2 fun a6 =>
  St vw5 a6 (.int .i64 u3) fun vw7 =>
  R vw7
def pl176_T267 : Plan := (.block (.seq (.reg .seq) (.cond (.reg .seq) (.seq (.reg .seq) (.cond (.seq (.reg .seq) (.reg .seq)) (.seq (.reg .seq) (.reg .seq)))))))
set_option maxRecDepth 100000 in
theorem T176_T267 (n1 : Option Addr) (ve2 : Option Addr) (u3 : Int) (w : World) (R : World → Prop) (h : S176_T267 n1 ve2 u3 w R) : CD176 n1 ve2 (some (.iface 267 (.int .i64 u3))) w R := by
  have e : fnTS Tryd.prog FF MAY pl176_T267 Tryd.f176 [.pointer n1, .pointer ve2] (some (.iface 267 (.int .i64 u3))) w R = S176_T267 n1 ve2 u3 w R := by kernel_rfl
  exact fnS_calls okF okM Tryd.func176 (by kernel_rfl) (by kernel_rfl) (e.mpr h)

/-- foliant/fix.within -/
def S201 (n1 : Int) (w : World) (R : Bool → World → Prop) : Prop :=
  Br (decide (n1 ≥ (-1073741824))) (R (decide (n1 ≤ 1073741824)) w) (R false w)
def pl201 : Plan := (.seq (.reg .seq) (.seq (.reg .seq) .leaf))
set_option maxRecDepth 100000 in
theorem T201 (n1 : Int) (w : World) (R : Bool → World → Prop) (h : S201 n1 w R) : C201 n1 w R := by
  have e : fnT Tryd.prog ⟨FF, MAY, (fun _ _ => False)⟩ pl201 Tryd.f201 [.int .i64 n1] w [(.one .bool)] (fun s w => R s w) = S201 n1 w R := by kernel_rfl
  exact (fn_calls okF okM Tryd.func201 (by kernel_rfl) (by kernel_rfl) (e.mpr h)).mono fun _ _ ⟨s, he, hR⟩ => ⟨s, he, hR⟩

def S177L1 (l1 : Slc) (R : World → Prop) (PR : Value → World → Prop) (I4 : Int → World → Prop) (s2 : Int) (vw3 : World) : Prop :=
  Br (decide (s2 < ((l1.len : Nat) : Int))) (0 ≤ s2 ∧ s2 < (l1.len : Nat) ∧ Nn l1.p fun a5 =>
    Ld vw3 (a5.add ((s2).toNat * 1)) (Value.int .i64) fun (x6 : Int) =>
    C201 x6 vw3 fun r7 vw8 =>
      Br (!r7) (PR (.iface 267 (.int .i64 2)) vw8) (I4 (IntKind.i64.wrap (s2 + 1)) vw8)) (R vw3)
/-- foliant/fix.bounded -/
def S177 (l1 : Slc) (w : World) (R : World → Prop) (PR : Value → World → Prop) : Prop :=
  Lp (σ := Int) (S177L1 l1 R PR) 0 w
def pl177 : Plan := (.seq (.reg .seq) (.block (.loop [(6, (.one (.int .i64)))] [4, 5] (.seq (.reg .seq) (.seq (.cond .leaf .leaf) (.seq (.block (.seq (.reg .seq) (.seq (.reg .seq) (.cond (.reg .seq) .leaf)))) (.reg .seq)))))))
set_option maxRecDepth 100000 in
theorem T177 (l1 : Slc) (w : World) (R : World → Prop) (PR : Value → World → Prop) (h : S177 l1 w R PR) : C177 l1 w R PR := by
  have e : fnT Tryd.prog ⟨FF, MAY, PR⟩ pl177 Tryd.f177 [Slc.v l1] w [] (fun _ w => R w) = S177 l1 w R PR := by kernel_rfl
  exact (fn_callsP okF okM Tryd.func177 (by kernel_rfl) (by kernel_rfl) (e.mpr h)).mono fun _ _ he => he.elim (fun ⟨_, he, hR⟩ => .inl ⟨he, hR⟩) .inr

/-- foliant/fix.answer -/
def S178 (n1 : Int) (w : World) (R : Int → World → Prop) (PR : Value → World → Prop) : Prop :=
  Nw w (.cells #[.int .i64 n1] 2) fun vw2 =>
  C177 (⟨some ⟨w.heap.size, 0, none⟩, 1, 1⟩ : Slc) vw2 (fun vw3 =>
    R n1 vw3) PR
def pl178 : Plan := (.seq (.reg .seq) (.seq (.reg .seq) (.seq (.reg .seq) .leaf)))
set_option maxRecDepth 100000 in
theorem T178 (n1 : Int) (w : World) (R : Int → World → Prop) (PR : Value → World → Prop) (h : S178 n1 w R PR) : C178 n1 w R PR := by
  have e : fnT Tryd.prog ⟨FF, MAY, PR⟩ pl178 Tryd.f178 [.int .i64 n1] w [(.one (.int .i64))] (fun s w => R s w) = S178 n1 w R PR := by kernel_rfl
  exact (fn_callsP okF okM Tryd.func178 (by kernel_rfl) (by kernel_rfl) (e.mpr h)).mono fun _ _ he => he.elim (fun ⟨s, he, hR⟩ => .inl ⟨s, he, hR⟩) .inr

/-- foliant/fix.nearest -/
def S179 (n1 : Int) (vby2 : Int) (w : World) (R : Int → World → Prop) : Prop :=
  vby2 ≠ 0 ∧ vby2 ≠ 0 ∧ Br (decide ((Int.tmod n1 vby2) < 0)) (Lt (decide ((IntKind.i64.wrap ((Int.tmod n1 vby2) + vby2)) ≥ (IntKind.i64.wrap (vby2 - (IntKind.i64.wrap ((Int.tmod n1 vby2) + vby2)))))) fun (x3 : Bool) =>
    Br x3 (R (IntKind.i64.wrap ((IntKind.i64.wrap ((IntKind.i64.wrap (Int.tdiv n1 vby2)) - 1)) + 1)) w.drew) (R (IntKind.i64.wrap ((IntKind.i64.wrap (Int.tdiv n1 vby2)) - 1)) w.drew)) (Br (decide ((Int.tmod n1 vby2) ≥ (IntKind.i64.wrap (vby2 - (Int.tmod n1 vby2))))) (R (IntKind.i64.wrap ((IntKind.i64.wrap (Int.tdiv n1 vby2)) + 1)) w.drew) (R (IntKind.i64.wrap (Int.tdiv n1 vby2)) w.drew))
def pl179 : Plan := (.seq (.reg .seq) (.seq (.reg .still) (.seq (.seq (.reg .seq) (.cond (.reg .seq) .leaf)) (.seq (.seq (.reg .seq) (.cond (.reg .seq) .leaf)) (.seq (.reg .seq) .leaf)))))
set_option maxRecDepth 100000 in
theorem T179 (n1 : Int) (vby2 : Int) (w : World) (R : Int → World → Prop) (h : S179 n1 vby2 w R) : C179 n1 vby2 w R := by
  have e : fnT Tryd.prog ⟨FF, MAY, (fun _ _ => False)⟩ pl179 Tryd.f179 [.int .i64 n1, .int .i64 vby2] w [(.one (.int .i64))] (fun s w => R s w) = S179 n1 vby2 w R := by kernel_rfl
  exact (fn_calls okF okM Tryd.func179 (by kernel_rfl) (by kernel_rfl) (e.mpr h)).mono fun _ _ ⟨s, he, hR⟩ => ⟨s, he, hR⟩

def S125P (w : World) (vw2 : World) (R : Int → Int → World → Prop) (x5 : Value) (vw4 : World) : Prop :=
  CD176 (some (⟨w.heap.size, 0, none⟩ : Addr)) (some (⟨vw2.heap.size, 0, none⟩ : Addr)) (some x5) vw4 fun vw6 =>
    Ld vw6 (⟨w.heap.size, 0, none⟩ : Addr) (Value.int .i64) fun (x7 : Int) =>
    Ld vw6 (⟨vw2.heap.size, 0, none⟩ : Addr) (Value.int .i64) fun (x8 : Int) =>
    R x7 x8 vw6
def S125L1 (w : World) (l1 : Slc) (vw2 : World) (R : Int → Int → World → Prop) (I35 : Int → World → Prop) (s33 : Int) (vw34 : World) : Prop :=
  Br (decide (s33 < ((l1.len : Nat) : Int))) (Ld vw34.drew (⟨w.heap.size, 0, none⟩ : Addr) (Value.int .i64) fun (x36 : Int) =>
    0 ≤ s33 ∧ s33 < (l1.len : Nat) ∧ Nn l1.p fun a37 =>
    Ld vw34.drew (a37.add ((s33).toNat * 1)) (Value.int .i64) fun (x38 : Int) =>
    0 ≤ (IntKind.i64.wrap (s33 + 1)) ∧ (IntKind.i64.wrap (s33 + 1)) < (l1.len : Nat) ∧ Nn l1.p fun a39 =>
    Ld vw34.drew (a39.add ((IntKind.i64.wrap (s33 + 1)).toNat * 1)) (Value.int .i64) fun (x40 : Int) =>
    St vw34.drew (⟨w.heap.size, 0, none⟩ : Addr) (.int .i64 (IntKind.i64.wrap (x36 + (IntKind.i64.wrap (x38 * x40))))) fun vw41 =>
    I35 (IntKind.i64.wrap (s33 + 2)) vw41) (Ld vw34 (⟨w.heap.size, 0, none⟩ : Addr) (Value.int .i64) fun (x42 : Int) =>
    C179 x42 10000 vw34 fun r43 vw44 =>
      C178 r43 vw44 (fun r45 vw46 =>
        St vw46 (⟨w.heap.size, 0, none⟩ : Addr) (.int .i64 r45) fun vw47 =>
        St vw47 (⟨vw2.heap.size, 0, none⟩ : Addr) (.int .i64 0) fun vw48 =>
        CD176 (some (⟨w.heap.size, 0, none⟩ : Addr)) (some (⟨vw2.heap.size, 0, none⟩ : Addr)) none vw48 fun vw49 =>
          Ld vw49 (⟨w.heap.size, 0, none⟩ : Addr) (Value.int .i64) fun (x50 : Int) =>
          Ld vw49 (⟨vw2.heap.size, 0, none⟩ : Addr) (Value.int .i64) fun (x51 : Int) =>
          R x50 x51 vw49) (S125P w vw2 R))
/-- foliant/fix.Dot -/
def S125 (l1 : Slc) (w : World) (R : Int → Int → World → Prop) : Prop :=
  Nw w (.cells #[.int .i64 0] 2) fun vw2 =>
  Nw vw2 (.cells #[.int .i64 0] 38) fun vw3 =>
  Br ((Int.tmod ((l1.len : Nat) : Int) 2) != 0) (St vw3 (⟨w.heap.size, 0, none⟩ : Addr) (.int .i64 0) fun vw13 =>
    St vw13 (⟨vw2.heap.size, 0, none⟩ : Addr) (.int .i64 1) fun vw14 =>
    CD176 (some (⟨w.heap.size, 0, none⟩ : Addr)) (some (⟨vw2.heap.size, 0, none⟩ : Addr)) none vw14 fun vw15 =>
      Ld vw15 (⟨w.heap.size, 0, none⟩ : Addr) (Value.int .i64) fun (x16 : Int) =>
      Ld vw15 (⟨vw2.heap.size, 0, none⟩ : Addr) (Value.int .i64) fun (x17 : Int) =>
      R x16 x17 vw15) (Br (decide (((l1.len : Nat) : Int) > 8)) (St vw3 (⟨w.heap.size, 0, none⟩ : Addr) (.int .i64 0) fun vw18 =>
      St vw18 (⟨vw2.heap.size, 0, none⟩ : Addr) (.int .i64 1) fun vw19 =>
      CD176 (some (⟨w.heap.size, 0, none⟩ : Addr)) (some (⟨vw2.heap.size, 0, none⟩ : Addr)) none vw19 fun vw20 =>
        Ld vw20 (⟨w.heap.size, 0, none⟩ : Addr) (Value.int .i64) fun (x21 : Int) =>
        Ld vw20 (⟨vw2.heap.size, 0, none⟩ : Addr) (Value.int .i64) fun (x22 : Int) =>
        R x21 x22 vw20) (C177 l1 vw3 (fun vw23 =>
        Lp (σ := Int) (S125L1 w l1 vw2 R) 0 vw23) (S125P w vw2 R)))
def pl125 : DPlan := (.pre (.reg .seq) (.here [2, 3] (.seq (.seq (.reg .seq) (.cond (.seq (.reg .seq) .leaf) .leaf)) (.seq (.reg .seq) (.seq (.seq (.reg .seq) (.block (.loop [(4, (.one (.int .i64)))] [0, 2, 3] (.seq (.seq (.reg .seq) (.cond .leaf .leaf)) (.seq (.block (.reg (.tail 12))) (.reg .seq)))))) (.seq (.reg .seq) .leaf))))))
set_option maxRecDepth 100000 in
theorem T125 (l1 : Slc) (w : World) (R : Int → Int → World → Prop) (h : S125 l1 w R) : C125 l1 w R := by
  have e : fnTD Tryd.prog FF MAY (fun _ _ => False) pl125 Tryd.f125 [Slc.v l1] w [(.one (.int .i64)), (.one (.int .i64))] (fun s w => R s.1 s.2 w) = S125 l1 w R := by kernel_rfl
  exact (fnD_calls okF okM Tryd.func125 (by kernel_rfl) (by kernel_rfl) (e.mpr h)).mono fun _ _ ⟨s, he, hR⟩ => ⟨s.1, s.2, he, hR⟩

/-- foliant/foliantref02.Within -/
def S159 (n1 : Int) (w : World) (R : Bool → World → Prop) : Prop :=
  Br (decide (n1 ≥ (-1073741824))) (R (decide (n1 ≤ 1073741824)) w) (R false w)
def pl159 : Plan := (.seq (.reg .seq) (.seq (.reg .seq) .leaf))
set_option maxRecDepth 100000 in
theorem T159 (n1 : Int) (w : World) (R : Bool → World → Prop) (h : S159 n1 w R) : C159 n1 w R := by
  have e : fnT Tryd.prog ⟨FF, MAY, (fun _ _ => False)⟩ pl159 Tryd.f159 [.int .i64 n1] w [(.one .bool)] (fun s w => R s w) = S159 n1 w R := by kernel_rfl
  exact (fn_calls okF okM Tryd.func159 (by kernel_rfl) (by kernel_rfl) (e.mpr h)).mono fun _ _ ⟨s, he, hR⟩ => ⟨s, he, hR⟩

/-- foliant/foliantref02.told -/
def S160 (n1 : Int) (w : World) (R : Int → Int → World → Prop) : Prop :=
  C159 n1 w fun r2 vw3 =>
    Br (!r2) (R 0 2 vw3) (R n1 0 vw3)
def pl160 : Plan := (.seq (.reg .seq) (.seq (.seq (.reg .seq) (.cond (.seq (.reg .seq) .leaf) .leaf)) (.seq (.reg .seq) .leaf)))
set_option maxRecDepth 100000 in
theorem T160 (n1 : Int) (w : World) (R : Int → Int → World → Prop) (h : S160 n1 w R) : C160 n1 w R := by
  have e : fnT Tryd.prog ⟨FF, MAY, (fun _ _ => False)⟩ pl160 Tryd.f160 [.int .i64 n1] w [(.one (.int .i64)), (.one (.int .i64))] (fun s w => R s.1 s.2 w) = S160 n1 w R := by kernel_rfl
  exact (fn_calls okF okM Tryd.func160 (by kernel_rfl) (by kernel_rfl) (e.mpr h)).mono fun _ _ ⟨s, he, hR⟩ => ⟨s.1, s.2, he, hR⟩

/-- foliant/foliantref02.nearest -/
def S161 (n1 : Int) (vby2 : Int) (w : World) (R : Int → World → Prop) : Prop :=
  vby2 ≠ 0 ∧ vby2 ≠ 0 ∧ Br (decide ((Int.tmod n1 vby2) < 0)) (Lt (decide ((IntKind.i64.wrap ((Int.tmod n1 vby2) + vby2)) ≥ (IntKind.i64.wrap (vby2 - (IntKind.i64.wrap ((Int.tmod n1 vby2) + vby2)))))) fun (x3 : Bool) =>
    Br x3 (R (IntKind.i64.wrap ((IntKind.i64.wrap ((IntKind.i64.wrap (Int.tdiv n1 vby2)) - 1)) + 1)) w) (R (IntKind.i64.wrap ((IntKind.i64.wrap (Int.tdiv n1 vby2)) - 1)) w)) (Br (decide ((Int.tmod n1 vby2) ≥ (IntKind.i64.wrap (vby2 - (Int.tmod n1 vby2))))) (R (IntKind.i64.wrap ((IntKind.i64.wrap (Int.tdiv n1 vby2)) + 1)) w) (R (IntKind.i64.wrap (Int.tdiv n1 vby2)) w))
def pl161 : Plan := (.seq (.reg .seq) (.seq (.reg .seq) (.seq (.reg .seq) (.seq (.seq (.reg .seq) (.cond (.seq (.reg .seq) (.reg .seq)) .leaf)) (.seq (.seq (.reg .seq) (.cond (.reg .seq) .leaf)) (.seq (.reg .seq) .leaf))))))
set_option maxRecDepth 100000 in
theorem T161 (n1 : Int) (vby2 : Int) (w : World) (R : Int → World → Prop) (h : S161 n1 vby2 w R) : C161 n1 vby2 w R := by
  have e : fnT Tryd.prog ⟨FF, MAY, (fun _ _ => False)⟩ pl161 Tryd.f161 [.int .i64 n1, .int .i64 vby2] w [(.one (.int .i64))] (fun s w => R s w) = S161 n1 vby2 w R := by kernel_rfl
  exact (fn_calls okF okM Tryd.func161 (by kernel_rfl) (by kernel_rfl) (e.mpr h)).mono fun _ _ ⟨s, he, hR⟩ => ⟨s, he, hR⟩

def S107L1 (l1 : Slc) (R : Int → Int → World → Prop) (I27 : (Int × Int) → World → Prop) (s25 : Int × Int) (vw26 : World) : Prop :=
  Br (decide ((IntKind.i64.wrap (s25.2 + 1)) < ((l1.len : Nat) : Int))) (0 ≤ s25.2 ∧ s25.2 < (l1.len : Nat) ∧ Nn l1.p fun a28 =>
    Ld vw26 (a28.add ((s25.2).toNat * 1)) (Value.int .i64) fun (x29 : Int) =>
    C159 x29 vw26 fun r30 vw31 =>
      Br (!r30) (R 0 2 vw31) (0 ≤ (IntKind.i64.wrap (s25.2 + 1)) ∧ (IntKind.i64.wrap (s25.2 + 1)) < (l1.len : Nat) ∧ Nn l1.p fun a32 =>
        Ld vw31 (a32.add ((IntKind.i64.wrap (s25.2 + 1)).toNat * 1)) (Value.int .i64) fun (x33 : Int) =>
        C159 x33 vw31 fun r34 vw35 =>
          Br (!r34) (R 0 2 vw35) (0 ≤ s25.2 ∧ s25.2 < (l1.len : Nat) ∧ Nn l1.p fun a36 =>
            Ld vw35.drew (a36.add ((s25.2).toNat * 1)) (Value.int .i64) fun (x37 : Int) =>
            0 ≤ (IntKind.i64.wrap (s25.2 + 1)) ∧ (IntKind.i64.wrap (s25.2 + 1)) < (l1.len : Nat) ∧ Nn l1.p fun a38 =>
            Ld vw35.drew (a38.add ((IntKind.i64.wrap (s25.2 + 1)).toNat * 1)) (Value.int .i64) fun (x39 : Int) =>
            I27 (IntKind.i64.wrap (s25.1 + (IntKind.i64.wrap (x37 * x39))), IntKind.i64.wrap (s25.2 + 2)) vw35.drew))) (C161 s25.1 10000 vw26 fun r40 vw41 =>
      C160 r40 vw41 fun r42 r43 vw44 =>
        R r42 r43 vw44)
/-- foliant/foliantref02.Dot -/
def S107 (l1 : Slc) (w : World) (R : Int → Int → World → Prop) : Prop :=
  Br ((Int.tmod ((l1.len : Nat) : Int) 2) == 1) (R 0 1 w) (Br (decide (((l1.len : Nat) : Int) > 8)) (R 0 1 w) (Lp (σ := Int × Int) (S107L1 l1 R) (0, 0) w))
def pl107 : Plan := (.seq (.reg .seq) (.seq (.seq (.reg .seq) (.cond (.seq (.reg .seq) .leaf) .leaf)) (.seq (.reg .seq) (.seq (.seq (.reg .seq) (.block (.loop [(4, (.one (.int .i64))), (5, (.one (.int .i64)))] [0] (.seq (.seq (.reg .seq) (.cond .leaf .leaf)) (.seq (.block (.seq (.seq (.reg .seq) (.cond (.seq (.reg .seq) .leaf) .leaf)) (.reg .still))) (.reg .seq)))))) (.seq (.reg .seq) .leaf)))))
set_option maxRecDepth 100000 in
theorem T107 (l1 : Slc) (w : World) (R : Int → Int → World → Prop) (h : S107 l1 w R) : C107 l1 w R := by
  have e : fnT Tryd.prog ⟨FF, MAY, (fun _ _ => False)⟩ pl107 Tryd.f107 [Slc.v l1] w [(.one (.int .i64)), (.one (.int .i64))] (fun s w => R s.1 s.2 w) = S107 l1 w R := by kernel_rfl
  exact (fn_calls okF okM Tryd.func107 (by kernel_rfl) (by kernel_rfl) (e.mpr h)).mono fun _ _ ⟨s, he, hR⟩ => ⟨s.1, s.2, he, hR⟩

def S132P (w : World) (vw2 : World) (R : Int → Int → World → Prop) (x5 : Value) (vw4 : World) : Prop :=
  CD176 (some (⟨w.heap.size, 0, none⟩ : Addr)) (some (⟨vw2.heap.size, 0, none⟩ : Addr)) (some x5) vw4 fun vw6 =>
    Ld vw6 (⟨w.heap.size, 0, none⟩ : Addr) (Value.int .i64) fun (x7 : Int) =>
    Ld vw6 (⟨vw2.heap.size, 0, none⟩ : Addr) (Value.int .i64) fun (x8 : Int) =>
    R x7 x8 vw6
def S132L1 (w : World) (l1 : Slc) (vw2 : World) (R : Int → Int → World → Prop) (I12 : Int → World → Prop) (s10 : Int) (vw11 : World) : Prop :=
  Br (decide (s10 < ((l1.len : Nat) : Int))) (0 ≤ s10 ∧ s10 < (l1.len : Nat) ∧ Nn l1.p fun a13 =>
    Ld vw11 (a13.add ((s10).toNat * 1)) (Value.int .i64) fun (x14 : Int) =>
    Ld vw11 (⟨w.heap.size, 0, none⟩ : Addr) (Value.int .i64) fun (x15 : Int) =>
    St vw11 (⟨w.heap.size, 0, none⟩ : Addr) (.int .i64 (IntKind.i64.wrap (x15 + x14))) fun vw16 =>
    I12 (IntKind.i64.wrap (s10 + 1)) vw16) (Ld vw11 (⟨w.heap.size, 0, none⟩ : Addr) (Value.int .i64) fun (x17 : Int) =>
    C178 x17 vw11 (fun r18 vw19 =>
      St vw19 (⟨w.heap.size, 0, none⟩ : Addr) (.int .i64 r18) fun vw20 =>
      St vw20 (⟨vw2.heap.size, 0, none⟩ : Addr) (.int .i64 0) fun vw21 =>
      CD176 (some (⟨w.heap.size, 0, none⟩ : Addr)) (some (⟨vw2.heap.size, 0, none⟩ : Addr)) none vw21 fun vw22 =>
        Ld vw22 (⟨w.heap.size, 0, none⟩ : Addr) (Value.int .i64) fun (x23 : Int) =>
        Ld vw22 (⟨vw2.heap.size, 0, none⟩ : Addr) (Value.int .i64) fun (x24 : Int) =>
        R x23 x24 vw22) (S132P w vw2 R))
/-- foliant/fix.Sum -/
def S132 (l1 : Slc) (w : World) (R : Int → Int → World → Prop) : Prop :=
  Nw w (.cells #[.int .i64 0] 2) fun vw2 =>
  Nw vw2 (.cells #[.int .i64 0] 38) fun vw3 =>
  C177 l1 vw3 (fun vw9 =>
    Lp (σ := Int) (S132L1 w l1 vw2 R) 0 vw9) (S132P w vw2 R)
def pl132 : DPlan := (.pre (.reg .seq) (.here [2, 3] (.seq (.reg .seq) (.seq (.seq (.reg .seq) (.block (.loop [(10, (.one (.int .i64)))] [2, 3, 8, 9] (.seq (.reg .seq) (.seq (.cond .leaf .leaf) (.seq (.block (.seq (.reg .seq) (.reg .seq))) (.reg .seq))))))) (.seq (.reg .seq) .leaf)))))
set_option maxRecDepth 100000 in
theorem T132 (l1 : Slc) (w : World) (R : Int → Int → World → Prop) (h : S132 l1 w R) : C132 l1 w R := by
  have e : fnTD Tryd.prog FF MAY (fun _ _ => False) pl132 Tryd.f132 [Slc.v l1] w [(.one (.int .i64)), (.one (.int .i64))] (fun s w => R s.1 s.2 w) = S132 l1 w R := by kernel_rfl
  exact (fnD_calls okF okM Tryd.func132 (by kernel_rfl) (by kernel_rfl) (e.mpr h)).mono fun _ _ ⟨s, he, hR⟩ => ⟨s.1, s.2, he, hR⟩

def S158L1 (l1 : Slc) (R : Int → Int → World → Prop) (I17 : (Int × Int) → World → Prop) (s15 : Int × Int) (vw16 : World) : Prop :=
  Br (decide (s15.2 < ((l1.len : Nat) : Int))) (0 ≤ s15.2 ∧ s15.2 < (l1.len : Nat) ∧ Nn l1.p fun a18 =>
    Ld vw16 (a18.add ((s15.2).toNat * 1)) (Value.int .i64) fun (x19 : Int) =>
    C159 x19 vw16 fun r20 vw21 =>
      Br (!r20) (R 0 2 vw21) (0 ≤ s15.2 ∧ s15.2 < (l1.len : Nat) ∧ Nn l1.p fun a22 =>
        Ld vw21 (a22.add ((s15.2).toNat * 1)) (Value.int .i64) fun (x23 : Int) =>
        I17 (IntKind.i64.wrap (s15.1 + x23), IntKind.i64.wrap (s15.2 + 1)) vw21)) (C160 s15.1 vw16 fun r24 r25 vw26 =>
      R r24 r25 vw26)
/-- foliant/foliantref02.Sum -/
def S158 (l1 : Slc) (w : World) (R : Int → Int → World → Prop) : Prop :=
  Lp (σ := Int × Int) (S158L1 l1 R) (0, 0) w
def pl158 : Plan := (.seq (.reg .seq) (.seq (.reg .seq) (.seq (.seq (.reg .seq) (.block (.loop [(4, (.one (.int .i64))), (5, (.one (.int .i64)))] [0] (.seq (.seq (.reg .seq) (.cond .leaf .leaf)) (.seq (.block (.seq (.seq (.reg .seq) (.cond (.seq (.reg .seq) .leaf) .leaf)) (.reg .seq))) (.reg .seq)))))) (.seq (.reg .seq) .leaf))))
set_option maxRecDepth 100000 in
theorem T158 (l1 : Slc) (w : World) (R : Int → Int → World → Prop) (h : S158 l1 w R) : C158 l1 w R := by
  have e : fnT Tryd.prog ⟨FF, MAY, (fun _ _ => False)⟩ pl158 Tryd.f158 [Slc.v l1] w [(.one (.int .i64)), (.one (.int .i64))] (fun s w => R s.1 s.2 w) = S158 l1 w R := by kernel_rfl
  exact (fn_calls okF okM Tryd.func158 (by kernel_rfl) (by kernel_rfl) (e.mpr h)).mono fun _ _ ⟨s, he, hR⟩ => ⟨s.1, s.2, he, hR⟩

end Go.Proofs.YtjbeembbnkmpeaaDoor
