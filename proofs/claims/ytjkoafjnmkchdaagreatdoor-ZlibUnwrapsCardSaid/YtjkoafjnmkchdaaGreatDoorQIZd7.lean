/- The closure that compares two coins by their weights (it calls a function that it loads). Condition: the loaded function is the one known. -/
import Derived.Test.YtjkoafjnmkchdaaGreatDoorQIZd6
import Derived.Test.YtjkoafjnmkchdaaGreatDoorQIZd3
import Derived.Test.YtjkoafjnmkchdaaGreatDoorQIZd4
import Derived.Test.YtjkoafjnmkchdaaGreatDoorQIZd2
import Derived.Test.YtjkoafjnmkchdaaGreatDoorQIZd5
import Derived.StringKeys
import Derived.MapKept
namespace Go.Proofs.YtjkoafjnmkchdaaGreatDoor
open Sh
set_option linter.unusedVariables false
set_option maxRecDepth 100000
def wfn : Value := .func (.func 114) #[] #[]
def C126 (x : Option Addr) (y : Option Addr) (c : Addr) (w : World) (R : Int → World → Prop) : Prop :=
  Calls Tryz.prog 126 #[.pointer x, .pointer y, .pointer (some c)] w fun e w' => ∃ r0 : Int, e = .returned (.int .i64 r0) ∧ R r0 w'
theorem C126.mono {x : Option Addr} {y : Option Addr} {c : Addr} {w : World} {R R' : Int → World → Prop} (h : C126 x y c w R) (hr : ∀ r0 w', R r0 w' → R' r0 w') : C126 x y c w R' :=
  Calls.mono h fun _ _ ⟨r0, he, hR⟩ => ⟨r0, he, hr _ _ hR⟩
/-- A load whose value is known. -/
theorem take_load {P : Program} {F : Fx} {ops : Array Oper} {i : Nat} {r : Od} {J : List Nat} {S : World → Prop} {listed : Array Bool} {E : Env} {w : World} {K : Env → World → Prop} {o : Oper} {t : TypeId} {x : Operand} {a : Addr} {v : Value} {d : TypeDesc} {n : Nat}
    (ho : ops[i]? = some o) (hop : o.op = .load t x) (hg : o.guard = none) (hc : ((Region.free .any ops listed i && (Region.ready .any ops listed).contains i) && (!isLoad o.op || J.all fun j => anc ops j i)) = true) (hh : (hasAll E o.op && stillOp P o.op) = true)
    (hx : E.rho x = .pointer (some a)) (hd : P.underlying t = some d) (hn : szOf P t = some n) (ha : isAggD (some d) = false) (hraw : tyD d = .raw) (hS : ∀ w, S w → w.cell? a = some v)
    (k : heldT P F ops r [] J S (listed.setIfInBounds i true) (E.put o.dst v) w K) : heldT P F ops (.take i r) [] J S listed E w K := by
  unfold heldT
  rw [ho]
  have hc' : (([] : List Nat).isEmpty && (Region.free .any ops listed i && (Region.ready .any ops listed).contains i) && (!isLoad o.op || J.all fun j => anc ops j i)) = true := by
    rw [List.isEmpty_nil, Bool.true_and]; exact hc
  dsimp only
  rw [hc']
  dsimp only
  unfold gdT
  rw [hg]
  dsimp only
  rw [hh]
  dsimp only
  unfold opQ
  rw [hop]
  dsimp only
  unfold ldQ
  rw [hx]
  dsimp only
  rw [hd, hn]
  dsimp only
  rw [ha]
  dsimp only
  rw [hraw]
  exact ⟨v, hS, k⟩
def opsB : Option Code → Array Oper
  | some (.seq _ (.seq (.region _ ops _) _)) => ops
  | _ => #[]
def odCmp : Od := .take 0 (.take 3 (.take 1 (.take 4 (.eff 2 none (.eff 5 none (.eff 6 (some []) (.take 7 .done)))))))
def plCmp : Plan := .seq (.reg .seq) (.seq (.reg (.held [6] odCmp)) .leaf)
theorem phT_of {S : World → Prop} {w : World} {k : (World → Prop) → Prop} (h : S w) (hk : k S) : phT true w k := ⟨S, h, hk⟩
theorem T126 (x y : Option Addr) (c : Addr) (w : World) (R : Int → World → Prop) (hc : w.cell? c = some wfn)
    (h : C114 x w.drew fun r8 w1 => w1.cell? c = some wfn ∧ C114 y w1 fun r11 w2 => w2.cell? c = some wfn ∧ C127 r8 r11 w2 fun r w3 => R r w3) : C126 x y c w R := by
  have e : fnT Tryz.prog ⟨FF, MAY, (fun _ _ => False)⟩ plCmp Tryz.f126 [.pointer x, .pointer y, .pointer (some c)] w [(.one (.int .i64))] (fun s w => R s w) = phT true w.drew fun S => heldT Tryz.prog ⟨FF, MAY, (fun _ _ => False)⟩ (opsB Tryz.f126.body) odCmp [] [6] S (Array.replicate 8 false) [(5, .int .i64 0), (0, .pointer x), (1, .pointer y), (2, .pointer (some c))] w.drew fun E w => codeT Tryz.prog ⟨FF, MAY, (fun _ _ => False)⟩ .leaf .ret E w fun e E w => match e with
      | .ret => resT Tryz.prog Tryz.f126.results.toList E w fun vs => match Sg.get? [(.one (.int .i64))] vs with
        | some s => R s w
        | none => False
      | .normal => resT Tryz.prog Tryz.f126.results.toList E w fun vs => match Sg.get? [(.one (.int .i64))] vs with
        | some s => R s w
        | none => False
      | _ => False := by kernel_rfl
  refine (fn_calls okF okM Tryz.func126 (by kernel_rfl) (by kernel_rfl) (e.mpr (phT_of (S := fun w' => w'.cell? c = some wfn) hc ?_))).mono fun _ _ ⟨s, he, hR⟩ => ⟨s, he, hR⟩
  refine take_load (i := 0) (d := (Tryz.prog.underlying 168).get!) (n := 1) (t := 168) (x := .tmp 2) (o := (opsB Tryz.f126.body)[0]!) (by kernel_rfl) (by kernel_rfl) (by kernel_rfl) (by kernel_rfl) (by kernel_rfl) (a := c) (by kernel_rfl) (by kernel_rfl) (by kernel_rfl) (by kernel_rfl) (by kernel_rfl) (fun _ h => h) ?_
  refine take_load (i := 3) (d := (Tryz.prog.underlying 168).get!) (n := 1) (t := 168) (x := .tmp 2) (o := (opsB Tryz.f126.body)[3]!) (by kernel_rfl) (by kernel_rfl) (by kernel_rfl) (by kernel_rfl) (by kernel_rfl) (a := c) (by kernel_rfl) (by kernel_rfl) (by kernel_rfl) (by kernel_rfl) (by kernel_rfl) (fun _ h => h) ?_
  refine Eq.mpr ?_ h
  kernel_rfl
end Go.Proofs.YtjkoafjnmkchdaaGreatDoor

/- The formulas of 14 functions of the program, written by program (gen.py); the kernel checks each. No condition. -/
namespace Go.Proofs.YtjkoafjnmkchdaaGreatDoor
open Sh
set_option linter.unusedVariables false
set_option maxRecDepth 100000

def C130 (s1 : Slc) (n2 : Int) (w : World) (R : Slc → World → Prop) (PR : Value → World → Prop) : Prop :=
  Calls Tryz.prog 130 #[Slc.v s1, .int .i64 n2] w fun e w' => (∃ r0 : Slc, e = .returned (Slc.v r0) ∧ R r0 w') ∨ ∃ v, e = .panicked (onePanic v) ∧ PR v w'
theorem C130.mono {s1 : Slc} {n2 : Int} {w : World} {R R' : Slc → World → Prop} {PR PR' : Value → World → Prop} (h : C130 s1 n2 w R PR) (hr : ∀ r0 w', R r0 w' → R' r0 w') (hp : ∀ v w', PR v w' → PR' v w') : C130 s1 n2 w R' PR' :=
  Calls.mono h fun _ _ he => he.elim (fun ⟨r0, he, hR⟩ => .inl ⟨r0, he, hr _ _ hR⟩) fun ⟨v, he, hP⟩ => .inr ⟨v, he, hp _ _ hP⟩
def C124 (slices1 : Slc) (w : World) (R : Slc → World → Prop) (PR : Value → World → Prop) : Prop :=
  Calls Tryz.prog 124 #[Slc.v slices1] w fun e w' => (∃ r0 : Slc, e = .returned (Slc.v r0) ∧ R r0 w') ∨ ∃ v, e = .panicked (onePanic v) ∧ PR v w'
theorem C124.mono {slices1 : Slc} {w : World} {R R' : Slc → World → Prop} {PR PR' : Value → World → Prop} (h : C124 slices1 w R PR) (hr : ∀ r0 w', R r0 w' → R' r0 w') (hp : ∀ v w', PR v w' → PR' v w') : C124 slices1 w R' PR' :=
  Calls.mono h fun _ _ he => he.elim (fun ⟨r0, he, hR⟩ => .inl ⟨r0, he, hr _ _ hR⟩) fun ⟨v, he, hP⟩ => .inr ⟨v, he, hp _ _ hP⟩
def C133 (data1 : Slc) (a2 : Int) (b3 : Int) (cmp4 : Value) (w : World) (R : World → Prop) : Prop :=
  Calls Tryz.prog 133 #[Slc.v data1, .int .i64 a2, .int .i64 b3, cmp4] w fun e w' => e = .returned (.tuple #[]) ∧ R w'
theorem C133.mono {data1 : Slc} {a2 : Int} {b3 : Int} {cmp4 : Value} {w : World} {R R' : World → Prop} (h : C133 data1 a2 b3 cmp4 w R) (hr : ∀ w', R w' → R' w') : C133 data1 a2 b3 cmp4 w R' :=
  Calls.mono h fun _ _ ⟨he, hR⟩ => ⟨he, hr _ hR⟩
def C136 (data1 : Slc) (a2 : Int) (b3 : Int) (n4 : Int) (cmp5 : Value) (w : World) (R : World → Prop) : Prop :=
  Calls Tryz.prog 136 #[Slc.v data1, .int .i64 a2, .int .i64 b3, .int .i64 n4, cmp5] w fun e w' => e = .returned (.tuple #[]) ∧ R w'
theorem C136.mono {data1 : Slc} {a2 : Int} {b3 : Int} {n4 : Int} {cmp5 : Value} {w : World} {R R' : World → Prop} (h : C136 data1 a2 b3 n4 cmp5 w R) (hr : ∀ w', R w' → R' w') : C136 data1 a2 b3 n4 cmp5 w R' :=
  Calls.mono h fun _ _ ⟨he, hR⟩ => ⟨he, hr _ hR⟩
def C135 (data1 : Slc) (a2 : Int) (m3 : Int) (b4 : Int) (cmp5 : Value) (w : World) (R : World → Prop) : Prop :=
  Calls Tryz.prog 135 #[Slc.v data1, .int .i64 a2, .int .i64 m3, .int .i64 b4, cmp5] w fun e w' => e = .returned (.tuple #[]) ∧ R w'
theorem C135.mono {data1 : Slc} {a2 : Int} {m3 : Int} {b4 : Int} {cmp5 : Value} {w : World} {R R' : World → Prop} (h : C135 data1 a2 m3 b4 cmp5 w R) (hr : ∀ w', R w' → R' w') : C135 data1 a2 m3 b4 cmp5 w R' :=
  Calls.mono h fun _ _ ⟨he, hR⟩ => ⟨he, hr _ hR⟩
def C134 (data1 : Slc) (a2 : Int) (m3 : Int) (b4 : Int) (cmp5 : Value) (w : World) (R : World → Prop) : Prop :=
  Calls Tryz.prog 134 #[Slc.v data1, .int .i64 a2, .int .i64 m3, .int .i64 b4, cmp5] w fun e w' => e = .returned (.tuple #[]) ∧ R w'
theorem C134.mono {data1 : Slc} {a2 : Int} {m3 : Int} {b4 : Int} {cmp5 : Value} {w : World} {R R' : World → Prop} (h : C134 data1 a2 m3 b4 cmp5 w R) (hr : ∀ w', R w' → R' w') : C134 data1 a2 m3 b4 cmp5 w R' :=
  Calls.mono h fun _ _ ⟨he, hR⟩ => ⟨he, hr _ hR⟩
def C131 (data1 : Slc) (n2 : Int) (cmp3 : Value) (w : World) (R : World → Prop) : Prop :=
  Calls Tryz.prog 131 #[Slc.v data1, .int .i64 n2, cmp3] w fun e w' => e = .returned (.tuple #[]) ∧ R w'
theorem C131.mono {data1 : Slc} {n2 : Int} {cmp3 : Value} {w : World} {R R' : World → Prop} (h : C131 data1 n2 cmp3 w R) (hr : ∀ w', R w' → R' w') : C131 data1 n2 cmp3 w R' :=
  Calls.mono h fun _ _ ⟨he, hR⟩ => ⟨he, hr _ hR⟩
def C125 (x1 : Slc) (cmp2 : Value) (w : World) (R : World → Prop) : Prop :=
  Calls Tryz.prog 125 #[Slc.v x1, cmp2] w fun e w' => e = .returned (.tuple #[]) ∧ R w'
theorem C125.mono {x1 : Slc} {cmp2 : Value} {w : World} {R R' : World → Prop} (h : C125 x1 cmp2 w R) (hr : ∀ w', R w' → R' w') : C125 x1 cmp2 w R' :=
  Calls.mono h fun _ _ ⟨he, hR⟩ => ⟨he, hr _ hR⟩
def C113 (a1 : Slc) (b2 : Slc) (weight3 : Value) (w : World) (R : Slc → World → Prop) (PR : Value → World → Prop) : Prop :=
  Calls Tryz.prog 113 #[Slc.v a1, Slc.v b2, weight3] w fun e w' => (∃ r0 : Slc, e = .returned (Slc.v r0) ∧ R r0 w') ∨ ∃ v, e = .panicked (onePanic v) ∧ PR v w'
theorem C113.mono {a1 : Slc} {b2 : Slc} {weight3 : Value} {w : World} {R R' : Slc → World → Prop} {PR PR' : Value → World → Prop} (h : C113 a1 b2 weight3 w R PR) (hr : ∀ r0 w', R r0 w' → R' r0 w') (hp : ∀ v w', PR v w' → PR' v w') : C113 a1 b2 weight3 w R' PR' :=
  Calls.mono h fun _ _ he => he.elim (fun ⟨r0, he, hR⟩ => .inl ⟨r0, he, hr _ _ hR⟩) fun ⟨v, he, hP⟩ => .inr ⟨v, he, hp _ _ hP⟩
def C95 (a1 : Slc) (b2 : Slc) (w : World) (R : Slc → World → Prop) (PR : Value → World → Prop) : Prop :=
  Calls Tryz.prog 95 #[Slc.v a1, Slc.v b2] w fun e w' => (∃ r0 : Slc, e = .returned (Slc.v r0) ∧ R r0 w') ∨ ∃ v, e = .panicked (onePanic v) ∧ PR v w'
theorem C95.mono {a1 : Slc} {b2 : Slc} {w : World} {R R' : Slc → World → Prop} {PR PR' : Value → World → Prop} (h : C95 a1 b2 w R PR) (hr : ∀ r0 w', R r0 w' → R' r0 w') (hp : ∀ v w', PR v w' → PR' v w') : C95 a1 b2 w R' PR' :=
  Calls.mono h fun _ _ he => he.elim (fun ⟨r0, he, hR⟩ => .inl ⟨r0, he, hr _ _ hR⟩) fun ⟨v, he, hP⟩ => .inr ⟨v, he, hp _ _ hP⟩
def C96 (l1 : Slc) (w : World) (R : Slc → World → Prop) : Prop :=
  Calls Tryz.prog 96 #[Slc.v l1] w fun e w' => ∃ r0 : Slc, e = .returned (Slc.v r0) ∧ R r0 w'
theorem C96.mono {l1 : Slc} {w : World} {R R' : Slc → World → Prop} (h : C96 l1 w R) (hr : ∀ r0 w', R r0 w' → R' r0 w') : C96 l1 w R' :=
  Calls.mono h fun _ _ ⟨r0, he, hR⟩ => ⟨r0, he, hr _ _ hR⟩
def C98 (sign1 : Int) (c2 : Addr) (w : World) (R : World → Prop) : Prop :=
  Calls Tryz.prog 98 #[.int .i64 sign1, .pointer (some c2)] w fun e w' => e = .returned (.tuple #[]) ∧ R w'
theorem C98.mono {sign1 : Int} {c2 : Addr} {w : World} {R R' : World → Prop} (h : C98 sign1 c2 w R) (hr : ∀ w', R w' → R' w') : C98 sign1 c2 w R' :=
  Calls.mono h fun _ _ ⟨he, hR⟩ => ⟨he, hr _ hR⟩
def C97 (c1 : Option Addr) (tell2 : Value) (w : World) (R : World → Prop) : Prop :=
  Calls Tryz.prog 97 #[.pointer c1, tell2] w fun e w' => e = .returned (.tuple #[]) ∧ R w'
theorem C97.mono {c1 : Option Addr} {tell2 : Value} {w : World} {R R' : World → Prop} (h : C97 c1 tell2 w R) (hr : ∀ w', R w' → R' w') : C97 c1 tell2 w R' :=
  Calls.mono h fun _ _ ⟨he, hR⟩ => ⟨he, hr _ hR⟩
def C63 (counts1 : Slc) (most2 : Int) (w : World) (R : Slc → Int → World → Prop) (PR : Value → World → Prop) : Prop :=
  Calls Tryz.prog 63 #[Slc.v counts1, .int .i64 most2] w fun e w' => (∃ r0 : Slc, ∃ r1 : Int, e = .returned (.tuple #[Slc.v r0, .int .i64 r1]) ∧ R r0 r1 w') ∨ ∃ v, e = .panicked (onePanic v) ∧ PR v w'
theorem C63.mono {counts1 : Slc} {most2 : Int} {w : World} {R R' : Slc → Int → World → Prop} {PR PR' : Value → World → Prop} (h : C63 counts1 most2 w R PR) (hr : ∀ r0 r1 w', R r0 r1 w' → R' r0 r1 w') (hp : ∀ v w', PR v w' → PR' v w') : C63 counts1 most2 w R' PR' :=
  Calls.mono h fun _ _ he => he.elim (fun ⟨r0, r1, he, hR⟩ => .inl ⟨r0, r1, he, hr _ _ _ hR⟩) fun ⟨v, he, hP⟩ => .inr ⟨v, he, hp _ _ hP⟩

/-- slices.Grow[[]*foliant/code.coin,*foliant/code.coin] -/
def S130 (s1 : Slc) (n2 : Int) (w : World) (R : Slc → World → Prop) (PR : Value → World → Prop) : Prop :=
  Br (decide (n2 < 0)) (PR (.iface 9 (.string ((⟨#[99, 97, 110, 110, 111, 116, 32, 98, 101, 32, 110, 101, 103, 97, 116, 105, 118, 101]⟩ : ByteArray)))) w) (Lt (IntKind.i64.wrap (n2 - (IntKind.i64.wrap (((s1.cap : Nat) : Int) - ((s1.len : Nat) : Int))))) fun (x3 : Int) =>
    Br (decide (x3 > 0)) (0 ≤ ((s1.cap : Nat) : Int) ∧ ((s1.cap : Nat) : Int) ≤ ((s1.cap : Nat) : Int) ∧ Rn Tryz.prog (Builtin.append_ #[143, 3] 143 #[Slc.v (s1.cut 1 0 ((((s1.cap : Nat) : Int)).toNat) s1.cap), .int .i64 x3]) w Slc.v fun (x4 : Slc) vw5 =>
      0 ≤ ((s1.len : Nat) : Int) ∧ ((s1.len : Nat) : Int) ≤ ((x4.cap : Nat) : Int) ∧ R (x4.cut 1 0 ((((s1.len : Nat) : Int)).toNat) x4.cap) vw5) (R s1 w))
def pl130 : Plan := (.seq (.reg .seq) (.seq (.seq (.reg .seq) (.cond (.reg .seq) .leaf)) (.seq (.seq (.reg .seq) (.seq (.reg .seq) (.cond (.reg .seq) .leaf))) (.seq (.reg .seq) .leaf))))
set_option maxRecDepth 100000 in
theorem T130 (s1 : Slc) (n2 : Int) (w : World) (R : Slc → World → Prop) (PR : Value → World → Prop) (h : S130 s1 n2 w R PR) : C130 s1 n2 w R PR := by
  have e : fnT Tryz.prog ⟨FF, MAY, PR⟩ pl130 Tryz.f130 [Slc.v s1, .int .i64 n2] w [(.one .slc)] (fun s w => R s w) = S130 s1 n2 w R PR := by kernel_rfl
  exact (fn_callsP okF okM Tryz.func130 (by kernel_rfl) (by kernel_rfl) (e.mpr h)).mono fun _ _ he => he.elim (fun ⟨s, he, hR⟩ => .inl ⟨s, he, hR⟩) .inr

def S124L1 (slices1 : Slc) (R : Slc → World → Prop) (I16 : (Slc × Int) → World → Prop) (s14 : Slc × Int) (vw15 : World) : Prop :=
  Br (decide (s14.2 < ((slices1.len : Nat) : Int))) (0 ≤ s14.2 ∧ s14.2 < (slices1.len : Nat) ∧ Nn slices1.p fun a17 =>
    Ld vw15 (a17.add ((s14.2).toNat * 1)) Slc.v fun (x18 : Slc) =>
    Rn Tryz.prog (Builtin.append_ #[143, 143] 143 #[Slc.v s14.1, Slc.v x18]) vw15 Slc.v fun (x19 : Slc) vw20 =>
    I16 (x19, IntKind.i64.wrap (s14.2 + 1)) vw20) (R s14.1 vw15)
def S124L2 (slices1 : Slc) (R : Slc → World → Prop) (PR : Value → World → Prop) (I9 : (Int × Int) → World → Prop) (s7 : Int × Int) (vw8 : World) : Prop :=
  Br (decide (s7.2 < ((slices1.len : Nat) : Int))) (0 ≤ s7.2 ∧ s7.2 < (slices1.len : Nat) ∧ Nn slices1.p fun a10 =>
    Ld vw8 (a10.add ((s7.2).toNat * 1)) Slc.v fun (x11 : Slc) =>
    Br (decide ((IntKind.i64.wrap (s7.1 + ((x11.len : Nat) : Int))) < 0)) (PR (.iface 9 (.string ((⟨#[108, 101, 110, 32, 111, 117, 116, 32, 111, 102, 32, 114, 97, 110, 103, 101]⟩ : ByteArray)))) vw8) (I9 (IntKind.i64.wrap (s7.1 + ((x11.len : Nat) : Int)), IntKind.i64.wrap (s7.2 + 1)) vw8)) (C130 (⟨none, 0, 0⟩ : Slc) s7.1 vw8 (fun r12 vw13 =>
      Lp (σ := Slc × Int) (S124L1 slices1 R) (r12, 0) vw13) PR)
/-- slices.Concat[[]*foliant/code.coin,*foliant/code.coin] -/
def S124 (slices1 : Slc) (w : World) (R : Slc → World → Prop) (PR : Value → World → Prop) : Prop :=
  Lp (σ := Int × Int) (S124L2 slices1 R PR) (0, 0) w
def pl124 : Plan := (.seq (.reg .seq) (.seq (.reg .seq) (.seq (.seq (.reg .seq) (.block (.loop [(3, (.one (.int .i64))), (11, (.one (.int .i64)))] [0, 9, 10] (.seq (.reg .seq) (.seq (.cond .leaf .leaf) (.seq (.block (.seq (.reg .seq) (.seq (.reg .seq) (.seq (.reg .seq) (.cond (.reg .seq) .leaf))))) (.reg .seq))))))) (.seq (.reg .seq) (.seq (.seq (.reg .seq) (.block (.loop [(6, (.one .slc)), (27, (.one (.int .i64)))] [25, 26] (.seq (.reg .seq) (.seq (.cond .leaf .leaf) (.seq (.block (.seq (.reg .seq) (.reg .seq))) (.reg .seq))))))) (.seq (.reg .seq) .leaf))))))
set_option maxRecDepth 100000 in
theorem T124 (slices1 : Slc) (w : World) (R : Slc → World → Prop) (PR : Value → World → Prop) (h : S124 slices1 w R PR) : C124 slices1 w R PR := by
  have e : fnT Tryz.prog ⟨FF, MAY, PR⟩ pl124 Tryz.f124 [Slc.v slices1] w [(.one .slc)] (fun s w => R s w) = S124 slices1 w R PR := by kernel_rfl
  exact (fn_callsP okF okM Tryz.func124 (by kernel_rfl) (by kernel_rfl) (e.mpr h)).mono fun _ _ he => he.elim (fun ⟨s, he, hR⟩ => .inl ⟨s, he, hR⟩) .inr

def S133_F126L1 (data1 : Slc) (a2 : Int) (c5 : Addr) (s6 : Int) (I8 : Int → World → Prop) (I11 : Int → World → Prop) (s9 : Int) (vw10 : World) : Prop :=
  Br (decide (s9 > a2)) (0 ≤ s9 ∧ s9 < (data1.len : Nat) ∧ Nn data1.p fun a18 =>
    Ld vw10.drew (a18.add ((s9).toNat * 1)) Value.pointer fun (x19 : Option Addr) =>
    0 ≤ (IntKind.i64.wrap (s9 - 1)) ∧ (IntKind.i64.wrap (s9 - 1)) < (data1.len : Nat) ∧ Nn data1.p fun a20 =>
    Ld vw10.drew (a20.add ((IntKind.i64.wrap (s9 - 1)).toNat * 1)) Value.pointer fun (x21 : Option Addr) =>
    C126 x19 x21 c5 vw10.drew fun r22 vw23 =>
      Br (decide (r22 < 0)) (∃ vS24 : World → Prop, vS24 vw23.drew ∧ 0 ≤ (IntKind.i64.wrap (s9 - 1)) ∧ (IntKind.i64.wrap (s9 - 1)) < (data1.len : Nat) ∧ Nn data1.p fun a25 =>
        LdS vS24 (a25.add ((IntKind.i64.wrap (s9 - 1)).toNat * 1)) Value.pointer fun (x26 : Option Addr) =>
        0 ≤ s9 ∧ s9 < (data1.len : Nat) ∧ Nn data1.p fun a27 =>
        LdS vS24 (a27.add ((s9).toNat * 1)) Value.pointer fun (x28 : Option Addr) =>
        0 ≤ s9 ∧ s9 < (data1.len : Nat) ∧ Nn data1.p fun a29 =>
        St vw23.drew (a29.add ((s9).toNat * 1)) (.pointer x26) fun vw30 =>
        0 ≤ (IntKind.i64.wrap (s9 - 1)) ∧ (IntKind.i64.wrap (s9 - 1)) < (data1.len : Nat) ∧ Nn data1.p fun a31 =>
        St vw30 (a31.add ((IntKind.i64.wrap (s9 - 1)).toNat * 1)) (.pointer x28) fun vw32 =>
        I11 (IntKind.i64.wrap (s9 - 1)) vw32) (I8 (IntKind.i64.wrap (s6 + 1)) vw23)) (I8 (IntKind.i64.wrap (s6 + 1)) vw10.drew)
def S133_F126L2 (data1 : Slc) (a2 : Int) (b3 : Int) (c5 : Addr) (R : World → Prop) (I8 : Int → World → Prop) (s6 : Int) (vw7 : World) : Prop :=
  Br (decide (s6 < b3)) (Lp (σ := Int) (S133_F126L1 data1 a2 c5 s6 I8) s6 vw7) (R vw7)
/-- slices.insertionSortCmpFunc[*foliant/code.coin] -/
def S133_F126 (data1 : Slc) (a2 : Int) (b3 : Int) (c5 : Addr) (w : World) (R : World → Prop) : Prop :=
  Lp (σ := Int) (S133_F126L2 data1 a2 b3 c5 R) (IntKind.i64.wrap (a2 + 1)) w
def pl133_F126 : Plan := (.seq (.reg .seq) (.block (.loop [(8, (.one (.int .i64)))] [0, 1, 2, 3] (.seq (.seq (.reg .seq) (.cond .leaf .leaf)) (.seq (.block (.seq (.reg .seq) (.block (.loop [(9, (.one (.int .i64)))] [0, 1, 2, 3, 8] (.seq (.seq (.reg (.tail 14)) (.cond .leaf .leaf)) (.seq (.block (.reg (.held [15] (.take 0 (.take 1 (.take 2 (.take 3 (.take 4 (.take 5 (.take 6 (.take 7 (.take 8 (.take 9 (.take 10 (.take 11 (.take 12 (.take 13 (.take 14 (.eff 15 (some [17]) (.take 16 (.eff 17 (some []) .done))))))))))))))))))))) (.reg .seq))))))) (.reg .seq))))))
set_option maxRecDepth 100000 in
theorem T133_F126 (data1 : Slc) (a2 : Int) (b3 : Int) (c5 : Addr) (w : World) (R : World → Prop) (h : S133_F126 data1 a2 b3 c5 w R) : C133 data1 a2 b3 (.func (.func 126) #[] #[.pointer (some c5)]) w R := by
  have e : fnT Tryz.prog ⟨FF, MAY, (fun _ _ => False)⟩ pl133_F126 Tryz.f133 [Slc.v data1, .int .i64 a2, .int .i64 b3, .func (.func 126) #[] #[.pointer (some c5)]] w [] (fun _ w => R w) = S133_F126 data1 a2 b3 c5 w R := by kernel_rfl
  exact (fn_calls okF okM Tryz.func133 (by kernel_rfl) (by kernel_rfl) (e.mpr h)).mono fun _ _ ⟨_, he, hR⟩ => ⟨he, hR⟩

def S136L1 (data1 : Slc) (a2 : Int) (b3 : Int) (n4 : Int) (R : World → Prop) (I8 : Int → World → Prop) (s6 : Int) (vw7 : World) : Prop :=
  Br (decide (s6 < n4)) (∃ vS9 : World → Prop, vS9 vw7.drew ∧ 0 ≤ (IntKind.i64.wrap (b3 + s6)) ∧ (IntKind.i64.wrap (b3 + s6)) < (data1.len : Nat) ∧ Nn data1.p fun a10 =>
    LdS vS9 (a10.add ((IntKind.i64.wrap (b3 + s6)).toNat * 1)) Value.pointer fun (x11 : Option Addr) =>
    0 ≤ (IntKind.i64.wrap (a2 + s6)) ∧ (IntKind.i64.wrap (a2 + s6)) < (data1.len : Nat) ∧ Nn data1.p fun a12 =>
    LdS vS9 (a12.add ((IntKind.i64.wrap (a2 + s6)).toNat * 1)) Value.pointer fun (x13 : Option Addr) =>
    0 ≤ (IntKind.i64.wrap (a2 + s6)) ∧ (IntKind.i64.wrap (a2 + s6)) < (data1.len : Nat) ∧ Nn data1.p fun a14 =>
    St vw7.drew (a14.add ((IntKind.i64.wrap (a2 + s6)).toNat * 1)) (.pointer x11) fun vw15 =>
    0 ≤ (IntKind.i64.wrap (b3 + s6)) ∧ (IntKind.i64.wrap (b3 + s6)) < (data1.len : Nat) ∧ Nn data1.p fun a16 =>
    St vw15 (a16.add ((IntKind.i64.wrap (b3 + s6)).toNat * 1)) (.pointer x13) fun vw17 =>
    I8 (IntKind.i64.wrap (s6 + 1)) vw17) (R vw7)
/-- slices.swapRangeCmpFunc[*foliant/code.coin] -/
def S136 (data1 : Slc) (a2 : Int) (b3 : Int) (n4 : Int) (cmp5 : Value) (w : World) (R : World → Prop) : Prop :=
  Lp (σ := Int) (S136L1 data1 a2 b3 n4 R) 0 w
def pl136 : Plan := (.seq (.reg .seq) (.block (.loop [(10, (.one (.int .i64)))] [0, 1, 2, 3] (.seq (.seq (.reg .seq) (.cond .leaf .leaf)) (.seq (.block (.reg (.held [21] (.take 0 (.take 1 (.take 2 (.take 3 (.take 4 (.take 5 (.take 6 (.take 7 (.take 8 (.take 9 (.take 10 (.take 11 (.take 12 (.take 13 (.take 14 (.take 15 (.take 16 (.take 17 (.take 18 (.take 19 (.take 20 (.eff 21 (some [23]) (.take 22 (.eff 23 (some []) .done))))))))))))))))))))))))))) (.reg .seq))))))
set_option maxRecDepth 100000 in
theorem T136 (data1 : Slc) (a2 : Int) (b3 : Int) (n4 : Int) (cmp5 : Value) (w : World) (R : World → Prop) (h : S136 data1 a2 b3 n4 cmp5 w R) : C136 data1 a2 b3 n4 cmp5 w R := by
  have e : fnT Tryz.prog ⟨FF, MAY, (fun _ _ => False)⟩ pl136 Tryz.f136 [Slc.v data1, .int .i64 a2, .int .i64 b3, .int .i64 n4, cmp5] w [] (fun _ w => R w) = S136 data1 a2 b3 n4 cmp5 w R := by kernel_rfl
  exact (fn_calls okF okM Tryz.func136 (by kernel_rfl) (by kernel_rfl) (e.mpr h)).mono fun _ _ ⟨_, he, hR⟩ => ⟨he, hR⟩

def S135L1 (data1 : Slc) (m3 : Int) (cmp5 : Value) (R : World → Prop) (I13 : (Int × Int) → World → Prop) (s11 : Int × Int) (vw12 : World) : Prop :=
  Br (s11.1 != s11.2) (Br (decide (s11.1 > s11.2)) (C136 data1 (IntKind.i64.wrap (m3 - s11.1)) m3 s11.2 cmp5 vw12 fun vw14 =>
        I13 (IntKind.i64.wrap (s11.1 - s11.2), s11.2) vw14) (C136 data1 (IntKind.i64.wrap (m3 - s11.1)) (IntKind.i64.wrap ((IntKind.i64.wrap (m3 + s11.2)) - s11.1)) s11.1 cmp5 vw12 fun vw15 =>
        I13 (s11.1, IntKind.i64.wrap (s11.2 - s11.1)) vw15)) (C136 data1 (IntKind.i64.wrap (m3 - s11.1)) m3 s11.1 cmp5 vw12 fun vw16 =>
      R vw16)
/-- slices.rotateCmpFunc[*foliant/code.coin] -/
def S135 (data1 : Slc) (a2 : Int) (m3 : Int) (b4 : Int) (cmp5 : Value) (w : World) (R : World → Prop) : Prop :=
  Lp (σ := Int × Int) (S135L1 data1 m3 cmp5 R) (IntKind.i64.wrap (m3 - a2), IntKind.i64.wrap (b4 - m3)) w
def pl135 : Plan := (.seq (.reg .seq) (.seq (.reg .seq) (.seq (.block (.loop [(10, (.one (.int .i64))), (11, (.one (.int .i64)))] [0, 2, 4] (.seq (.seq (.reg .seq) (.cond .leaf .leaf)) (.block (.seq (.reg .seq) (.cond (.seq (.reg .seq) (.reg .seq)) (.seq (.reg .seq) (.reg .seq)))))))) (.reg .seq))))
set_option maxRecDepth 100000 in
theorem T135 (data1 : Slc) (a2 : Int) (m3 : Int) (b4 : Int) (cmp5 : Value) (w : World) (R : World → Prop) (h : S135 data1 a2 m3 b4 cmp5 w R) : C135 data1 a2 m3 b4 cmp5 w R := by
  have e : fnT Tryz.prog ⟨FF, MAY, (fun _ _ => False)⟩ pl135 Tryz.f135 [Slc.v data1, .int .i64 a2, .int .i64 m3, .int .i64 b4, cmp5] w [] (fun _ w => R w) = S135 data1 a2 m3 b4 cmp5 w R := by kernel_rfl
  exact (fn_calls okF okM Tryz.func135 (by kernel_rfl) (by kernel_rfl) (e.mpr h)).mono fun _ _ ⟨_, he, hR⟩ => ⟨he, hR⟩

def S134_F126L1 (data1 : Slc) (s39 : Int × Int) (R : World → Prop) (I51 : Int → World → Prop) (s49 : Int) (vw50 : World) : Prop :=
  Br (decide (s49 < (IntKind.i64.wrap (s39.1 - 1)))) (∃ vS52 : World → Prop, vS52 vw50.drew ∧ 0 ≤ (IntKind.i64.wrap (s49 + 1)) ∧ (IntKind.i64.wrap (s49 + 1)) < (data1.len : Nat) ∧ Nn data1.p fun a53 =>
    LdS vS52 (a53.add ((IntKind.i64.wrap (s49 + 1)).toNat * 1)) Value.pointer fun (x54 : Option Addr) =>
    0 ≤ s49 ∧ s49 < (data1.len : Nat) ∧ Nn data1.p fun a55 =>
    LdS vS52 (a55.add ((s49).toNat * 1)) Value.pointer fun (x56 : Option Addr) =>
    0 ≤ s49 ∧ s49 < (data1.len : Nat) ∧ Nn data1.p fun a57 =>
    St vw50.drew (a57.add ((s49).toNat * 1)) (.pointer x54) fun vw58 =>
    0 ≤ (IntKind.i64.wrap (s49 + 1)) ∧ (IntKind.i64.wrap (s49 + 1)) < (data1.len : Nat) ∧ Nn data1.p fun a59 =>
    St vw58 (a59.add ((IntKind.i64.wrap (s49 + 1)).toNat * 1)) (.pointer x56) fun vw60 =>
    I51 (IntKind.i64.wrap (s49 + 1)) vw60) (R vw50)
def S134_F126L2 (data1 : Slc) (a2 : Int) (c6 : Addr) (R : World → Prop) (I41 : (Int × Int) → World → Prop) (s39 : Int × Int) (vw40 : World) : Prop :=
  Br (decide (s39.1 < s39.2)) (0 ≤ (IntKind.i64.wrap (Int.fdiv (IntKind.u64.wrap (IntKind.i64.wrap (s39.1 + s39.2))) (2 ^ 1))) ∧ (IntKind.i64.wrap (Int.fdiv (IntKind.u64.wrap (IntKind.i64.wrap (s39.1 + s39.2))) (2 ^ 1))) < (data1.len : Nat) ∧ Nn data1.p fun a42 =>
    Ld vw40.drew (a42.add ((IntKind.i64.wrap (Int.fdiv (IntKind.u64.wrap (IntKind.i64.wrap (s39.1 + s39.2))) (2 ^ 1))).toNat * 1)) Value.pointer fun (x43 : Option Addr) =>
    0 ≤ a2 ∧ a2 < (data1.len : Nat) ∧ Nn data1.p fun a44 =>
    Ld vw40.drew (a44.add ((a2).toNat * 1)) Value.pointer fun (x45 : Option Addr) =>
    C126 x43 x45 c6 vw40.drew fun r46 vw47 =>
      Br (decide (r46 < 0)) (Lt (IntKind.i64.wrap ((IntKind.i64.wrap (Int.fdiv (IntKind.u64.wrap (IntKind.i64.wrap (s39.1 + s39.2))) (2 ^ 1))) + 1)) fun (x48 : Int) =>
        I41 (x48, s39.2) vw47) (I41 (s39.1, IntKind.i64.wrap (Int.fdiv (IntKind.u64.wrap (IntKind.i64.wrap (s39.1 + s39.2))) (2 ^ 1))) vw47)) (Lp (σ := Int) (S134_F126L1 data1 s39 R) a2 vw40)
def S134_F126L3 (data1 : Slc) (s93 : Int × Int) (R : World → Prop) (I105 : Int → World → Prop) (s103 : Int) (vw104 : World) : Prop :=
  Br (decide (s103 > s93.1)) (∃ vS106 : World → Prop, vS106 vw104.drew ∧ 0 ≤ (IntKind.i64.wrap (s103 - 1)) ∧ (IntKind.i64.wrap (s103 - 1)) < (data1.len : Nat) ∧ Nn data1.p fun a107 =>
    LdS vS106 (a107.add ((IntKind.i64.wrap (s103 - 1)).toNat * 1)) Value.pointer fun (x108 : Option Addr) =>
    0 ≤ s103 ∧ s103 < (data1.len : Nat) ∧ Nn data1.p fun a109 =>
    LdS vS106 (a109.add ((s103).toNat * 1)) Value.pointer fun (x110 : Option Addr) =>
    0 ≤ s103 ∧ s103 < (data1.len : Nat) ∧ Nn data1.p fun a111 =>
    St vw104.drew (a111.add ((s103).toNat * 1)) (.pointer x108) fun vw112 =>
    0 ≤ (IntKind.i64.wrap (s103 - 1)) ∧ (IntKind.i64.wrap (s103 - 1)) < (data1.len : Nat) ∧ Nn data1.p fun a113 =>
    St vw112 (a113.add ((IntKind.i64.wrap (s103 - 1)).toNat * 1)) (.pointer x110) fun vw114 =>
    I105 (IntKind.i64.wrap (s103 - 1)) vw114) (R vw104)
def S134_F126L4 (data1 : Slc) (m3 : Int) (c6 : Addr) (R : World → Prop) (I95 : (Int × Int) → World → Prop) (s93 : Int × Int) (vw94 : World) : Prop :=
  Br (decide (s93.1 < s93.2)) (0 ≤ m3 ∧ m3 < (data1.len : Nat) ∧ Nn data1.p fun a96 =>
    Ld vw94.drew (a96.add ((m3).toNat * 1)) Value.pointer fun (x97 : Option Addr) =>
    0 ≤ (IntKind.i64.wrap (Int.fdiv (IntKind.u64.wrap (IntKind.i64.wrap (s93.1 + s93.2))) (2 ^ 1))) ∧ (IntKind.i64.wrap (Int.fdiv (IntKind.u64.wrap (IntKind.i64.wrap (s93.1 + s93.2))) (2 ^ 1))) < (data1.len : Nat) ∧ Nn data1.p fun a98 =>
    Ld vw94.drew (a98.add ((IntKind.i64.wrap (Int.fdiv (IntKind.u64.wrap (IntKind.i64.wrap (s93.1 + s93.2))) (2 ^ 1))).toNat * 1)) Value.pointer fun (x99 : Option Addr) =>
    C126 x97 x99 c6 vw94.drew fun r100 vw101 =>
      Br (!(decide (r100 < 0))) (Lt (IntKind.i64.wrap ((IntKind.i64.wrap (Int.fdiv (IntKind.u64.wrap (IntKind.i64.wrap (s93.1 + s93.2))) (2 ^ 1))) + 1)) fun (x102 : Int) =>
        I95 (x102, s93.2) vw101) (I95 (s93.1, IntKind.i64.wrap (Int.fdiv (IntKind.u64.wrap (IntKind.i64.wrap (s93.1 + s93.2))) (2 ^ 1))) vw101)) (Lp (σ := Int) (S134_F126L3 data1 s93 R) m3 vw94)
def S134_F126J1 (data1 : Slc) (a2 : Int) (b4 : Int) (c6 : Addr) (x115 : Int) (s129 : Int × Int) (R : World → Prop) (s144 : Unit) (vw145 : World) : Prop :=
  Lt (decide ((IntKind.i64.wrap (Int.fdiv (IntKind.u64.wrap (IntKind.i64.wrap (a2 + b4))) (2 ^ 1))) < (IntKind.i64.wrap (x115 - s129.1)))) fun (x146 : Bool) =>
  Br x146 (Br (decide ((IntKind.i64.wrap (x115 - s129.1)) < b4)) (C134 data1 (IntKind.i64.wrap (Int.fdiv (IntKind.u64.wrap (IntKind.i64.wrap (a2 + b4))) (2 ^ 1))) (IntKind.i64.wrap (x115 - s129.1)) b4 (.func (.func 126) #[] #[.pointer (some c6)]) vw145 fun vw147 =>
        R vw147) (R vw145)) (R vw145)
def S134_F126J2 (data1 : Slc) (a2 : Int) (b4 : Int) (c6 : Addr) (x115 : Int) (s129 : Int × Int) (R : World → Prop) (s140 : Unit) (vw141 : World) : Prop :=
  Join (S134_F126J1 data1 a2 b4 c6 x115 s129 R) fun (vJ148 : Unit → World → Prop) =>
    Br (decide (a2 < s129.1)) (Lt (decide (s129.1 < (IntKind.i64.wrap (Int.fdiv (IntKind.u64.wrap (IntKind.i64.wrap (a2 + b4))) (2 ^ 1))))) fun (x149 : Bool) =>
      Br x149 (C134 data1 a2 s129.1 (IntKind.i64.wrap (Int.fdiv (IntKind.u64.wrap (IntKind.i64.wrap (a2 + b4))) (2 ^ 1))) (.func (.func 126) #[] #[.pointer (some c6)]) vw141 fun vw150 =>
          vJ148 () vw150) (vJ148 () vw141)) (vJ148 () vw141)
def S134_F126L5 (data1 : Slc) (a2 : Int) (m3 : Int) (b4 : Int) (c6 : Addr) (x115 : Int) (R : World → Prop) (I131 : (Int × Int) → World → Prop) (s129 : Int × Int) (vw130 : World) : Prop :=
  Br (decide (s129.1 < s129.2)) (Lt (IntKind.i64.wrap (Int.fdiv (IntKind.u64.wrap (IntKind.i64.wrap (s129.1 + s129.2))) (2 ^ 1))) fun (x132 : Int) =>
    0 ≤ (IntKind.i64.wrap ((IntKind.i64.wrap (x115 - 1)) - x132)) ∧ (IntKind.i64.wrap ((IntKind.i64.wrap (x115 - 1)) - x132)) < (data1.len : Nat) ∧ Nn data1.p fun a133 =>
    Ld vw130.drew (a133.add ((IntKind.i64.wrap ((IntKind.i64.wrap (x115 - 1)) - x132)).toNat * 1)) Value.pointer fun (x134 : Option Addr) =>
    0 ≤ x132 ∧ x132 < (data1.len : Nat) ∧ Nn data1.p fun a135 =>
    Ld vw130.drew (a135.add ((x132).toNat * 1)) Value.pointer fun (x136 : Option Addr) =>
    C126 x134 x136 c6 vw130.drew fun r137 vw138 =>
      Br (!(decide (r137 < 0))) (I131 (IntKind.i64.wrap (x132 + 1), s129.2) vw138) (I131 (s129.1, x132) vw138)) (Join (S134_F126J2 data1 a2 b4 c6 x115 s129 R) fun (vJ151 : Unit → World → Prop) =>
      Br (decide (s129.1 < m3)) (Br (decide (m3 < (IntKind.i64.wrap (x115 - s129.1)))) (C135 data1 s129.1 m3 (IntKind.i64.wrap (x115 - s129.1)) (.func (.func 126) #[] #[.pointer (some c6)]) vw130 fun vw152 =>
            vJ151 () vw152) (vJ151 () vw130)) (vJ151 () vw130))
def S134_F126J3 (data1 : Slc) (a2 : Int) (m3 : Int) (b4 : Int) (c6 : Addr) (x115 : Int) (R : World → Prop) (s117 : Int × Int) (vw118 : World) : Prop :=
  Lp (σ := Int × Int) (S134_F126L5 data1 a2 m3 b4 c6 x115 R) (s117.1, s117.2) vw118
/-- slices.symMergeCmpFunc[*foliant/code.coin] -/
def S134_F126 (data1 : Slc) (a2 : Int) (m3 : Int) (b4 : Int) (c6 : Addr) (w : World) (R : World → Prop) : Prop :=
  Br ((IntKind.i64.wrap (m3 - a2)) == 1) (Lp (σ := Int × Int) (S134_F126L2 data1 a2 c6 R) (m3, b4) w) (Br ((IntKind.i64.wrap (b4 - m3)) == 1) (Lp (σ := Int × Int) (S134_F126L4 data1 m3 c6 R) (a2, m3) w) (Lt (IntKind.i64.wrap ((IntKind.i64.wrap (Int.fdiv (IntKind.u64.wrap (IntKind.i64.wrap (a2 + b4))) (2 ^ 1))) + m3)) fun (x115 : Int) =>
      Join (S134_F126J3 data1 a2 m3 b4 c6 x115 R) fun (vJ153 : (Int × Int) → World → Prop) =>
        Lt (decide (m3 > (IntKind.i64.wrap (Int.fdiv (IntKind.u64.wrap (IntKind.i64.wrap (a2 + b4))) (2 ^ 1))))) fun (x154 : Bool) =>
        Br x154 (vJ153 (IntKind.i64.wrap (x115 - b4), IntKind.i64.wrap (Int.fdiv (IntKind.u64.wrap (IntKind.i64.wrap (a2 + b4))) (2 ^ 1))) w) (vJ153 (a2, m3) w)))
def pl134_F126 : Plan := (.seq (.seq (.reg .seq) (.cond (.seq (.reg .seq) (.seq (.reg .seq) (.seq (.block (.loop [(10, (.one (.int .i64))), (11, (.one (.int .i64)))] [0, 1, 4] (.seq (.seq (.reg .seq) (.cond .leaf .leaf)) (.block (.seq (.reg .seq) (.seq (.reg (.tail 9)) (.cond (.reg .seq) (.reg .seq)))))))) (.seq (.seq (.reg .seq) (.block (.loop [(13, (.one (.int .i64)))] [0, 10] (.seq (.seq (.reg .seq) (.cond .leaf .leaf)) (.seq (.block (.reg (.held [15] (.take 0 (.take 1 (.take 2 (.take 3 (.take 4 (.take 5 (.take 6 (.take 7 (.take 8 (.take 9 (.take 10 (.take 11 (.take 12 (.take 13 (.take 14 (.eff 15 (some [17]) (.take 16 (.eff 17 (some []) .done))))))))))))))))))))) (.reg .seq)))))) .leaf)))) .leaf)) (.seq (.seq (.reg .seq) (.cond (.seq (.reg .seq) (.seq (.reg .seq) (.seq (.block (.loop [(14, (.one (.int .i64))), (15, (.one (.int .i64)))] [0, 2, 4] (.seq (.seq (.reg .seq) (.cond .leaf .leaf)) (.block (.seq (.reg .seq) (.seq (.reg (.tail 9)) (.cond (.reg .seq) (.reg .seq)))))))) (.seq (.seq (.reg .seq) (.block (.loop [(17, (.one (.int .i64)))] [0, 14] (.seq (.seq (.reg .seq) (.cond .leaf .leaf)) (.seq (.block (.reg (.held [15] (.take 0 (.take 1 (.take 2 (.take 3 (.take 4 (.take 5 (.take 6 (.take 7 (.take 8 (.take 9 (.take 10 (.take 11 (.take 12 (.take 13 (.take 14 (.eff 15 (some [17]) (.take 16 (.eff 17 (some []) .done))))))))))))))))))))) (.reg .seq)))))) .leaf)))) .leaf)) (.seq (.reg .seq) (.seq (.reg .seq) (.seq (.reg .seq) (.join [(20, (.one (.int .i64))), (21, (.one (.int .i64)))] [0, 1, 2, 3, 4, 18, 19] (.seq (.reg .seq) (.cond (.seq (.reg .seq) (.reg .seq)) (.seq (.reg .seq) (.reg .seq)))) (.seq (.reg .seq) (.seq (.block (.loop [(20, (.one (.int .i64))), (21, (.one (.int .i64)))] [0, 1, 2, 3, 4, 18, 19, 22] (.seq (.seq (.reg .seq) (.cond .leaf .leaf)) (.block (.seq (.reg .seq) (.seq (.reg (.tail 11)) (.cond (.reg .seq) (.reg .seq)))))))) (.seq (.reg .seq) (.join [] [0, 1, 3, 4, 18, 20, 24] (.seq (.reg .seq) (.cond (.reg .seq) .leaf)) (.join [] [0, 3, 4, 18, 24] (.seq (.reg .seq) (.cond (.reg .seq) .leaf)) (.seq (.reg .seq) (.cond (.reg .seq) .leaf)))))))))))))
set_option maxRecDepth 100000 in
theorem T134_F126 (data1 : Slc) (a2 : Int) (m3 : Int) (b4 : Int) (c6 : Addr) (w : World) (R : World → Prop) (h : S134_F126 data1 a2 m3 b4 c6 w R) : C134 data1 a2 m3 b4 (.func (.func 126) #[] #[.pointer (some c6)]) w R := by
  have e : fnT Tryz.prog ⟨FF, MAY, (fun _ _ => False)⟩ pl134_F126 Tryz.f134 [Slc.v data1, .int .i64 a2, .int .i64 m3, .int .i64 b4, .func (.func 126) #[] #[.pointer (some c6)]] w [] (fun _ w => R w) = S134_F126 data1 a2 m3 b4 c6 w R := by kernel_rfl
  exact (fn_calls okF okM Tryz.func134 (by kernel_rfl) (by kernel_rfl) (e.mpr h)).mono fun _ _ ⟨_, he, hR⟩ => ⟨he, hR⟩

def S131_F126L1 (data1 : Slc) (n2 : Int) (c4 : Addr) (s14 : Int) (I16 : Int → World → Prop) (I23 : (Int × Int) → World → Prop) (s21 : Int × Int) (vw22 : World) : Prop :=
  Br (decide (s21.2 ≤ n2)) (C134 data1 s21.1 (IntKind.i64.wrap (s21.1 + s14)) s21.2 (.func (.func 126) #[] #[.pointer (some c4)]) vw22 fun vw24 =>
      I23 (s21.2, IntKind.i64.wrap (s21.2 + (IntKind.i64.wrap (2 * s14)))) vw24) (Br (decide ((IntKind.i64.wrap (s21.1 + s14)) < n2)) (C134 data1 s21.1 (IntKind.i64.wrap (s21.1 + s14)) n2 (.func (.func 126) #[] #[.pointer (some c4)]) vw22 fun vw25 =>
        I16 (IntKind.i64.wrap (s14 * 2)) vw25) (I16 (IntKind.i64.wrap (s14 * 2)) vw22))
def S131_F126L2 (data1 : Slc) (n2 : Int) (c4 : Addr) (R : World → Prop) (I16 : Int → World → Prop) (s14 : Int) (vw15 : World) : Prop :=
  Br (decide (s14 < n2)) (Lp (σ := Int × Int) (S131_F126L1 data1 n2 c4 s14 I16) (0, IntKind.i64.wrap (2 * s14)) vw15) (R vw15)
def S131_F126L3 (data1 : Slc) (n2 : Int) (c4 : Addr) (R : World → Prop) (I11 : (Int × Int) → World → Prop) (s9 : Int × Int) (vw10 : World) : Prop :=
  Br (decide (s9.2 ≤ n2)) (C133 data1 s9.1 s9.2 (.func (.func 126) #[] #[.pointer (some c4)]) vw10 fun vw12 =>
      I11 (s9.2, IntKind.i64.wrap (s9.2 + 20)) vw12) (C133 data1 s9.1 n2 (.func (.func 126) #[] #[.pointer (some c4)]) vw10 fun vw13 =>
      Lp (σ := Int) (S131_F126L2 data1 n2 c4 R) 20 vw13)
/-- slices.stableCmpFunc[*foliant/code.coin] -/
def S131_F126 (data1 : Slc) (n2 : Int) (c4 : Addr) (w : World) (R : World → Prop) : Prop :=
  Lp (σ := Int × Int) (S131_F126L3 data1 n2 c4 R) (0, 20) w
def pl131_F126 : Plan := (.seq (.reg .seq) (.seq (.reg .seq) (.seq (.block (.loop [(7, (.one (.int .i64))), (8, (.one (.int .i64)))] [0, 1, 2, 6] (.seq (.seq (.reg .seq) (.cond .leaf .leaf)) (.block (.seq (.reg .seq) (.seq (.reg .seq) (.reg .seq))))))) (.seq (.reg .seq) (.block (.loop [(6, (.one (.int .i64)))] [0, 1, 2] (.seq (.seq (.reg .seq) (.cond .leaf .leaf)) (.block (.seq (.reg .seq) (.seq (.block (.loop [(7, (.one (.int .i64))), (8, (.one (.int .i64)))] [0, 1, 2, 6] (.seq (.seq (.reg .seq) (.cond .leaf .leaf)) (.block (.seq (.reg .seq) (.seq (.reg .seq) (.reg .seq))))))) (.seq (.seq (.reg .seq) (.seq (.reg .seq) (.cond (.reg .seq) .leaf))) (.reg .seq))))))))))))
set_option maxRecDepth 100000 in
theorem T131_F126 (data1 : Slc) (n2 : Int) (c4 : Addr) (w : World) (R : World → Prop) (h : S131_F126 data1 n2 c4 w R) : C131 data1 n2 (.func (.func 126) #[] #[.pointer (some c4)]) w R := by
  have e : fnT Tryz.prog ⟨FF, MAY, (fun _ _ => False)⟩ pl131_F126 Tryz.f131 [Slc.v data1, .int .i64 n2, .func (.func 126) #[] #[.pointer (some c4)]] w [] (fun _ w => R w) = S131_F126 data1 n2 c4 w R := by kernel_rfl
  exact (fn_calls okF okM Tryz.func131 (by kernel_rfl) (by kernel_rfl) (e.mpr h)).mono fun _ _ ⟨_, he, hR⟩ => ⟨he, hR⟩

/-- slices.SortStableFunc[[]*foliant/code.coin,*foliant/code.coin] -/
def S125_F126 (x1 : Slc) (c3 : Addr) (w : World) (R : World → Prop) : Prop :=
  C131 x1 ((x1.len : Nat) : Int) (.func (.func 126) #[] #[.pointer (some c3)]) w fun vw4 =>
    R vw4
def pl125_F126 : Plan := (.reg .seq)
set_option maxRecDepth 100000 in
theorem T125_F126 (x1 : Slc) (c3 : Addr) (w : World) (R : World → Prop) (h : S125_F126 x1 c3 w R) : C125 x1 (.func (.func 126) #[] #[.pointer (some c3)]) w R := by
  have e : fnT Tryz.prog ⟨FF, MAY, (fun _ _ => False)⟩ pl125_F126 Tryz.f125 [Slc.v x1, .func (.func 126) #[] #[.pointer (some c3)]] w [] (fun _ w => R w) = S125_F126 x1 c3 w R := by kernel_rfl
  exact (fn_calls okF okM Tryz.func125 (by kernel_rfl) (by kernel_rfl) (e.mpr h)).mono fun _ _ ⟨_, he, hR⟩ => ⟨he, hR⟩

/-- foliant/code.sorted[*foliant/code.coin] -/
def S113_F114 (a1 : Slc) (b2 : Slc) (w : World) (R : Slc → World → Prop) (PR : Value → World → Prop) : Prop :=
  Nw w (.cells #[.func (.func 114) #[] #[]] 168) fun vw4 =>
  Nw vw4 (.cells #[Slc.v a1, Slc.v b2] 143) fun vw5 =>
  C124 (⟨some ⟨vw4.heap.size, 0, none⟩, 2, 2⟩ : Slc) vw5 (fun r6 vw7 =>
    C125 r6 (.func (.func 126) #[] #[.pointer (some (⟨w.heap.size, 0, none⟩ : Addr))]) vw7 fun vw8 =>
      R r6 vw8) PR
def pl113_F114 : Plan := (.seq (.reg .seq) (.seq (.reg .seq) (.seq (.reg .seq) (.seq (.reg .seq) .leaf))))
set_option maxRecDepth 100000 in
theorem T113_F114 (a1 : Slc) (b2 : Slc) (w : World) (R : Slc → World → Prop) (PR : Value → World → Prop) (h : S113_F114 a1 b2 w R PR) : C113 a1 b2 (.func (.func 114) #[] #[]) w R PR := by
  have e : fnT Tryz.prog ⟨FF, MAY, PR⟩ pl113_F114 Tryz.f113 [Slc.v a1, Slc.v b2, .func (.func 114) #[] #[]] w [(.one .slc)] (fun s w => R s w) = S113_F114 a1 b2 w R PR := by kernel_rfl
  exact (fn_callsP okF okM Tryz.func113 (by kernel_rfl) (by kernel_rfl) (e.mpr h)).mono fun _ _ he => he.elim (fun ⟨s, he, hR⟩ => .inl ⟨s, he, hR⟩) .inr

/-- foliant/code.merged -/
def S95 (a1 : Slc) (b2 : Slc) (w : World) (R : Slc → World → Prop) (PR : Value → World → Prop) : Prop :=
  C113 a1 b2 (.func (.func 114) #[] #[]) w (fun r3 vw4 =>
    R r3 vw4) PR
def pl95 : Plan := (.seq (.reg .seq) (.seq (.reg .seq) .leaf))
set_option maxRecDepth 100000 in
theorem T95 (a1 : Slc) (b2 : Slc) (w : World) (R : Slc → World → Prop) (PR : Value → World → Prop) (h : S95 a1 b2 w R PR) : C95 a1 b2 w R PR := by
  have e : fnT Tryz.prog ⟨FF, MAY, PR⟩ pl95 Tryz.f95 [Slc.v a1, Slc.v b2] w [(.one .slc)] (fun s w => R s w) = S95 a1 b2 w R PR := by kernel_rfl
  exact (fn_callsP okF okM Tryz.func95 (by kernel_rfl) (by kernel_rfl) (e.mpr h)).mono fun _ _ he => he.elim (fun ⟨s, he, hR⟩ => .inl ⟨s, he, hR⟩) .inr

def S96L1 (l1 : Slc) (R : Slc → World → Prop) (I4 : (Slc × Int) → World → Prop) (s2 : Slc × Int) (vw3 : World) : Prop :=
  Br (decide ((IntKind.i64.wrap (s2.2 + 1)) < ((l1.len : Nat) : Int))) (∃ vS5 : World → Prop, vS5 vw3.drew ∧ 0 ≤ s2.2 ∧ s2.2 < (l1.len : Nat) ∧ Nn l1.p fun a6 =>
    LdS vS5 (a6.add ((s2.2).toNat * 1)) Value.pointer fun (x7 : Option Addr) =>
    Nn x7 fun a8 =>
    LdS vS5 a8 (Value.int .i64) fun (x9 : Int) =>
    0 ≤ (IntKind.i64.wrap (s2.2 + 1)) ∧ (IntKind.i64.wrap (s2.2 + 1)) < (l1.len : Nat) ∧ Nn l1.p fun a10 =>
    LdS vS5 (a10.add ((IntKind.i64.wrap (s2.2 + 1)).toNat * 1)) Value.pointer fun (x11 : Option Addr) =>
    Nn x11 fun a12 =>
    LdS vS5 a12 (Value.int .i64) fun (x13 : Int) =>
    0 ≤ s2.2 ∧ s2.2 < (l1.len : Nat) ∧ Nn l1.p fun a14 =>
    LdS vS5 (a14.add ((s2.2).toNat * 1)) Value.pointer fun (x15 : Option Addr) =>
    0 ≤ (IntKind.i64.wrap (s2.2 + 1)) ∧ (IntKind.i64.wrap (s2.2 + 1)) < (l1.len : Nat) ∧ Nn l1.p fun a16 =>
    LdS vS5 (a16.add ((IntKind.i64.wrap (s2.2 + 1)).toNat * 1)) Value.pointer fun (x17 : Option Addr) =>
    Nw vw3.drew (.cells #[.int .i64 (IntKind.i64.wrap (x9 + x13)), .int .i64 0, .pointer x15, .pointer x17] 146) fun vw18 =>
    Nw vw18 (.cells #[.pointer (some (⟨vw3.drew.heap.size, 0, none⟩ : Addr))] 144) fun vw19 =>
    Rn Tryz.prog (Builtin.append_ #[143, 143] 143 #[Slc.v s2.1, Slc.v ((⟨some ⟨vw18.heap.size, 0, none⟩, 1, 1⟩ : Slc))]) vw19 Slc.v fun (x20 : Slc) vw21 =>
    I4 (x20, IntKind.i64.wrap (s2.2 + 2)) vw21) (R s2.1 vw3)
/-- foliant/code.pairs -/
def S96 (l1 : Slc) (w : World) (R : Slc → World → Prop) : Prop :=
  Lp (σ := Slc × Int) (S96L1 l1 R) ((⟨none, 0, 0⟩ : Slc), 0) w
def pl96 : Plan := (.seq (.reg .seq) (.seq (.reg .seq) (.seq (.seq (.reg .seq) (.block (.loop [(3, (.one .slc)), (4, (.one (.int .i64)))] [0] (.seq (.seq (.reg .seq) (.cond .leaf .leaf)) (.seq (.block (.reg (.held [26] (.take 0 (.take 1 (.take 2 (.take 3 (.take 4 (.take 5 (.take 6 (.take 7 (.take 8 (.take 9 (.take 10 (.take 11 (.take 12 (.take 13 (.take 14 (.take 15 (.take 16 (.take 17 (.take 18 (.take 19 (.take 20 (.take 21 (.take 22 (.take 23 (.take 24 (.take 25 (.eff 26 (some [27]) (.eff 27 (some [28]) (.eff 28 (some [29]) (.eff 29 (some []) (.take 30 .done)))))))))))))))))))))))))))))))))) (.reg .seq)))))) (.seq (.reg .seq) .leaf))))
set_option maxRecDepth 100000 in
theorem T96 (l1 : Slc) (w : World) (R : Slc → World → Prop) (h : S96 l1 w R) : C96 l1 w R := by
  have e : fnT Tryz.prog ⟨FF, MAY, (fun _ _ => False)⟩ pl96 Tryz.f96 [Slc.v l1] w [(.one .slc)] (fun s w => R s w) = S96 l1 w R := by kernel_rfl
  exact (fn_calls okF okM Tryz.func96 (by kernel_rfl) (by kernel_rfl) (e.mpr h)).mono fun _ _ ⟨s, he, hR⟩ => ⟨s, he, hR⟩

/-- foliant/code.Lengths$1 -/
def S98 (sign1 : Int) (c2 : Addr) (w : World) (R : World → Prop) : Prop :=
  Ld w c2 Slc.v fun (x3 : Slc) =>
  0 ≤ sign1 ∧ sign1 < (x3.len : Nat) ∧ Nn x3.p fun a4 =>
  Ld w (a4.add ((sign1).toNat * 1)) (Value.int .i64) fun (x5 : Int) =>
  0 ≤ sign1 ∧ sign1 < (x3.len : Nat) ∧ Nn x3.p fun a6 =>
  St w (a6.add ((sign1).toNat * 1)) (.int .i64 (IntKind.i64.wrap (x5 + 1))) fun vw7 =>
  R vw7
def pl98 : Plan := (.reg .seq)
set_option maxRecDepth 100000 in
theorem T98 (sign1 : Int) (c2 : Addr) (w : World) (R : World → Prop) (h : S98 sign1 c2 w R) : C98 sign1 c2 w R := by
  have e : fnT Tryz.prog ⟨FF, MAY, (fun _ _ => False)⟩ pl98 Tryz.f98 [.int .i64 sign1, .pointer (some c2)] w [] (fun _ w => R w) = S98 sign1 c2 w R := by kernel_rfl
  exact (fn_calls okF okM Tryz.func98 (by kernel_rfl) (by kernel_rfl) (e.mpr h)).mono fun _ _ ⟨_, he, hR⟩ => ⟨he, hR⟩

/-- (*foliant/code.coin).each -/
def S97_F98 (c1 : Option Addr) (c3 : Addr) (w : World) (R : World → Prop) : Prop :=
  Nn c1 fun a9 =>
  Ld w (a9.add 2) Value.pointer fun (x10 : Option Addr) =>
  Br x10.isNone (Nn c1 fun a11 =>
    Ld w (a11.add 1) (Value.int .i64) fun (x12 : Int) =>
    C98 x12 c3 w fun vw13 =>
      R vw13) (Nn c1 fun a14 =>
    Ld w (a14.add 2) Value.pointer fun (x15 : Option Addr) =>
    C97 x15 (.func (.func 98) #[] #[.pointer (some c3)]) w fun vw16 =>
      Nn c1 fun a17 =>
      Ld vw16 (a17.add 3) Value.pointer fun (x18 : Option Addr) =>
      C97 x18 (.func (.func 98) #[] #[.pointer (some c3)]) vw16 fun vw19 =>
        R vw19)
def pl97_F98 : Plan := (.seq (.seq (.reg .seq) (.cond (.seq (.reg .seq) .leaf) .leaf)) (.seq (.reg .seq) (.reg .seq)))
set_option maxRecDepth 100000 in
theorem T97_F98 (c1 : Option Addr) (c3 : Addr) (w : World) (R : World → Prop) (h : S97_F98 c1 c3 w R) : C97 c1 (.func (.func 98) #[] #[.pointer (some c3)]) w R := by
  have e : fnT Tryz.prog ⟨FF, MAY, (fun _ _ => False)⟩ pl97_F98 Tryz.f97 [.pointer c1, .func (.func 98) #[] #[.pointer (some c3)]] w [] (fun _ w => R w) = S97_F98 c1 c3 w R := by kernel_rfl
  exact (fn_calls okF okM Tryz.func97 (by kernel_rfl) (by kernel_rfl) (e.mpr h)).mono fun _ _ ⟨_, he, hR⟩ => ⟨he, hR⟩

def S63L1 (vw22 : World) (r36 : Slc) (s45 : Slc × Int) (x52 : Int) (R : Slc → Int → World → Prop) (I55 : Int → World → Prop) (s53 : Int) (vw54 : World) : Prop :=
  Br (decide (s53 < x52)) (0 ≤ s53 ∧ s53 < ((s45.1.cut 1 0 ((IntKind.i64.wrap ((IntKind.i64.wrap (2 * ((r36.len : Nat) : Int))) - 2)).toNat) s45.1.cap).len : Nat) ∧ Nn (s45.1.cut 1 0 ((IntKind.i64.wrap ((IntKind.i64.wrap (2 * ((r36.len : Nat) : Int))) - 2)).toNat) s45.1.cap).p fun a56 =>
    Ld vw54 (a56.add ((s53).toNat * 1)) Value.pointer fun (x57 : Option Addr) =>
    C97 x57 (.func (.func 98) #[] #[.pointer (some (⟨vw22.heap.size, 0, none⟩ : Addr))]) vw54 fun vw58 =>
      I55 (IntKind.i64.wrap (s53 + 1)) vw58) (Ld vw54 (⟨vw22.heap.size, 0, none⟩ : Addr) Slc.v fun (x59 : Slc) =>
    R x59 0 vw54)
def S63L2 (most2 : Int) (vw22 : World) (r36 : Slc) (R : Slc → Int → World → Prop) (PR : Value → World → Prop) (I47 : (Slc × Int) → World → Prop) (s45 : Slc × Int) (vw46 : World) : Prop :=
  Br (decide (s45.2 < (IntKind.i64.wrap (most2 - 1)))) (C96 s45.1 vw46 fun r48 vw49 =>
      C95 r36 r48 vw49 (fun r50 vw51 =>
        I47 (r50, IntKind.i64.wrap (s45.2 + 1)) vw51) PR) (0 ≤ (IntKind.i64.wrap ((IntKind.i64.wrap (2 * ((r36.len : Nat) : Int))) - 2)) ∧ (IntKind.i64.wrap ((IntKind.i64.wrap (2 * ((r36.len : Nat) : Int))) - 2)) ≤ ((s45.1.cap : Nat) : Int) ∧ Lt ((((s45.1.cut 1 0 ((IntKind.i64.wrap ((IntKind.i64.wrap (2 * ((r36.len : Nat) : Int))) - 2)).toNat) s45.1.cap).len : Nat) : Int)) fun (x52 : Int) =>
    Lp (σ := Int) (S63L1 vw22 r36 s45 x52 R) 0 vw46)
def S63J1 (most2 : Int) (s12 : Slc × Int) (vw22 : World) (R : Slc → Int → World → Prop) (PR : Value → World → Prop) (s32 : Unit) (vw33 : World) : Prop :=
  Br (decide (((s12.1.len : Nat) : Int) < 2)) (Ld vw33 (⟨vw22.heap.size, 0, none⟩ : Addr) Slc.v fun (x35 : Slc) =>
    R x35 0 vw33) (C95 s12.1 (⟨none, 0, 0⟩ : Slc) vw33 (fun r36 vw37 =>
      Lp (σ := Slc × Int) (S63L2 most2 vw22 r36 R PR) (r36, 0) vw37) PR)
def S63L3 (counts1 : Slc) (most2 : Int) (R : Slc → Int → World → Prop) (PR : Value → World → Prop) (I14 : (Slc × Int) → World → Prop) (s12 : Slc × Int) (vw13 : World) : Prop :=
  Br (decide (s12.2 < ((counts1.len : Nat) : Int))) (0 ≤ s12.2 ∧ s12.2 < (counts1.len : Nat) ∧ Nn counts1.p fun a15 =>
    Ld vw13 (a15.add ((s12.2).toNat * 1)) (Value.int .i64) fun (x16 : Int) =>
    Br (decide (x16 < 0)) (R (⟨none, 0, 0⟩ : Slc) 1 vw13) (Br (decide (x16 > 2147483647)) (R (⟨none, 0, 0⟩ : Slc) 1 vw13) (Br (decide (x16 > 0)) (Nw vw13 (.cells #[.int .i64 x16, .int .i64 (s12.2), .pointer none, .pointer none] 146) fun vw17 =>
          Nw vw17 (.cells #[.pointer (some (⟨vw13.heap.size, 0, none⟩ : Addr))] 144) fun vw18 =>
          Rn Tryz.prog (Builtin.append_ #[143, 143] 143 #[Slc.v s12.1, Slc.v ((⟨some ⟨vw17.heap.size, 0, none⟩, 1, 1⟩ : Slc))]) vw18 Slc.v fun (x19 : Slc) vw20 =>
          I14 (x19, IntKind.i64.wrap (s12.2 + 1)) vw20) (I14 (s12.1, IntKind.i64.wrap (s12.2 + 1)) vw13)))) (0 ≤ most2 ∧ Br (decide (((s12.1.len : Nat) : Int) > (IntKind.i64.wrap (1 * 2 ^ (min (most2).toNat 64))))) (R (⟨none, 0, 0⟩ : Slc) 13 vw13) (Rn Tryz.prog (Instr.makeSlice 76 (.int .i64 ((counts1.len : Nat) : Int)) (.int .i64 ((counts1.len : Nat) : Int))) vw13 Slc.v fun (x21 : Slc) vw22 =>
      Nw vw22 (.cells #[Slc.v ((⟨none, 0, 0⟩ : Slc))] 76) fun vw23 =>
      St vw23 (⟨vw22.heap.size, 0, none⟩ : Addr) (Slc.v x21) fun vw24 =>
      Join (S63J1 most2 s12 vw22 R PR) fun (vJ60 : Unit → World → Prop) =>
        Br (((s12.1.len : Nat) : Int) == 1) (Ld vw24.drew (⟨vw22.heap.size, 0, none⟩ : Addr) Slc.v fun (x61 : Slc) =>
          0 ≤ (0 : Int) ∧ (0 : Int) < (s12.1.len : Nat) ∧ Nn s12.1.p fun a62 =>
          Ld vw24.drew (a62.add (((0 : Int)).toNat * 1)) Value.pointer fun (x63 : Option Addr) =>
          Nn x63 fun a64 =>
          Ld vw24.drew (a64.add 1) (Value.int .i64) fun (x65 : Int) =>
          0 ≤ x65 ∧ x65 < (x61.len : Nat) ∧ Nn x61.p fun a66 =>
          St vw24.drew (a66.add ((x65).toNat * 1)) (.int .i64 1) fun vw67 =>
          vJ60 () vw67) (vJ60 () vw24)))
/-- foliant/code.Lengths -/
def S63 (counts1 : Slc) (most2 : Int) (w : World) (R : Slc → Int → World → Prop) (PR : Value → World → Prop) : Prop :=
  Br (decide (((counts1.len : Nat) : Int) > 288)) (R (⟨none, 0, 0⟩ : Slc) 6 w) (Br (decide (most2 < 1)) (R (⟨none, 0, 0⟩ : Slc) 1 w) (Br (decide (most2 > 15)) (R (⟨none, 0, 0⟩ : Slc) 1 w) (Lp (σ := Slc × Int) (S63L3 counts1 most2 R PR) ((⟨none, 0, 0⟩ : Slc), 0) w)))
def pl63 : Plan := (.seq (.reg .seq) (.seq (.seq (.reg .seq) (.cond (.seq (.reg .seq) .leaf) .leaf)) (.seq (.seq (.reg .seq) (.cond (.seq (.reg .seq) .leaf) .leaf)) (.seq (.reg .seq) (.seq (.seq (.reg .seq) (.block (.loop [(6, (.one .slc)), (24, (.one (.int .i64)))] [0, 1, 22, 23] (.seq (.reg .seq) (.seq (.cond .leaf .leaf) (.seq (.block (.seq (.reg .seq) (.seq (.seq (.reg .seq) (.cond (.seq (.reg .seq) .leaf) .leaf)) (.seq (.reg .seq) (.cond (.reg .seq) .leaf))))) (.reg .seq))))))) (.seq (.seq (.reg .seq) (.cond (.seq (.reg .seq) .leaf) .leaf)) (.seq (.reg .seq) (.join [] [1, 6, 9] (.seq (.reg .seq) (.cond (.reg (.tail 8)) .leaf)) (.seq (.seq (.reg .seq) (.cond (.seq (.reg .seq) .leaf) .leaf)) (.seq (.reg .seq) (.seq (.reg .seq) (.seq (.seq (.reg .seq) (.block (.loop [(10, (.one .slc)), (73, (.one (.int .i64)))] [6, 9, 72] (.seq (.reg .seq) (.seq (.cond .leaf .leaf) (.seq (.block (.reg .seq)) (.reg .seq))))))) (.seq (.seq (.reg .seq) (.block (.loop [(87, (.one (.int .i64)))] [9, 85, 86] (.seq (.reg .seq) (.seq (.cond .leaf .leaf) (.seq (.block (.seq (.reg .seq) (.reg .seq))) (.reg .seq))))))) (.seq (.reg .seq) .leaf))))))))))))))
set_option maxRecDepth 100000 in
theorem T63 (counts1 : Slc) (most2 : Int) (w : World) (R : Slc → Int → World → Prop) (PR : Value → World → Prop) (h : S63 counts1 most2 w R PR) : C63 counts1 most2 w R PR := by
  have e : fnT Tryz.prog ⟨FF, MAY, PR⟩ pl63 Tryz.f63 [Slc.v counts1, .int .i64 most2] w [(.one .slc), (.one (.int .i64))] (fun s w => R s.1 s.2 w) = S63 counts1 most2 w R PR := by kernel_rfl
  exact (fn_callsP okF okM Tryz.func63 (by kernel_rfl) (by kernel_rfl) (e.mpr h)).mono fun _ _ he => he.elim (fun ⟨s, he, hR⟩ => .inl ⟨s.1, s.2, he, hR⟩) .inr

end Go.Proofs.YtjkoafjnmkchdaaGreatDoor

/- The formulas of 8 functions of the program, written by program (gen.py); the kernel checks each. No condition. -/
namespace Go.Proofs.YtjkoafjnmkchdaaGreatDoor
open Sh
set_option linter.unusedVariables false
set_option maxRecDepth 100000

def C112 (n1 : Int) (ones2 : Int) (group3 : Int) (w : World) (R : Int → Int → Int → World → Prop) : Prop :=
  Calls Tryz.prog 112 #[.int .i64 n1, .int .i64 ones2, .int .i64 group3] w fun e w' => ∃ r0 : Int, ∃ r1 : Int, ∃ r2 : Int, e = .returned (.tuple #[.int .i64 r0, .int .i64 r1, .int .i64 r2]) ∧ R r0 r1 r2 w'
theorem C112.mono {n1 : Int} {ones2 : Int} {group3 : Int} {w : World} {R R' : Int → Int → Int → World → Prop} (h : C112 n1 ones2 group3 w R) (hr : ∀ r0 r1 r2 w', R r0 r1 r2 w' → R' r0 r1 r2 w') : C112 n1 ones2 group3 w R' :=
  Calls.mono h fun _ _ ⟨r0, r1, r2, he, hR⟩ => ⟨r0, r1, r2, he, hr _ _ _ _ hR⟩
def C93 (size1 : Int) (w : World) (R : Int → Int → Int → Int → World → Prop) : Prop :=
  Calls Tryz.prog 93 #[.int .i64 size1] w fun e w' => ∃ r0 : Int, ∃ r1 : Int, ∃ r2 : Int, ∃ r3 : Int, e = .returned (.tuple #[.int .i64 r0, .int .i64 r1, .int .i64 r2, .int .i64 r3]) ∧ R r0 r1 r2 r3 w'
theorem C93.mono {size1 : Int} {w : World} {R R' : Int → Int → Int → Int → World → Prop} (h : C93 size1 w R) (hr : ∀ r0 r1 r2 r3 w', R r0 r1 r2 r3 w' → R' r0 r1 r2 r3 w') : C93 size1 w R' :=
  Calls.mono h fun _ _ ⟨r0, r1, r2, r3, he, hR⟩ => ⟨r0, r1, r2, r3, he, hr _ _ _ _ _ hR⟩
def C94 (far1 : Int) (w : World) (R : Int → Int → Int → Int → World → Prop) : Prop :=
  Calls Tryz.prog 94 #[.int .i64 far1] w fun e w' => ∃ r0 : Int, ∃ r1 : Int, ∃ r2 : Int, ∃ r3 : Int, e = .returned (.tuple #[.int .i64 r0, .int .i64 r1, .int .i64 r2, .int .i64 r3]) ∧ R r0 r1 r2 r3 w'
theorem C94.mono {far1 : Int} {w : World} {R R' : Int → Int → Int → Int → World → Prop} (h : C94 far1 w R) (hr : ∀ r0 r1 r2 r3 w', R r0 r1 r2 r3 w' → R' r0 r1 r2 r3 w') : C94 far1 w R' :=
  Calls.mono h fun _ _ ⟨r0, r1, r2, r3, he, hR⟩ => ⟨r0, r1, r2, r3, he, hr _ _ _ _ _ hR⟩
def C87 (s1 : ByteArray) (a2 : Int) (b3 : Int) (most4 : Int) (w : World) (R : Int → World → Prop) : Prop :=
  Calls Tryz.prog 87 #[.string s1, .int .i64 a2, .int .i64 b3, .int .i64 most4] w fun e w' => ∃ r0 : Int, e = .returned (.int .i64 r0) ∧ R r0 w'
theorem C87.mono {s1 : ByteArray} {a2 : Int} {b3 : Int} {most4 : Int} {w : World} {R R' : Int → World → Prop} (h : C87 s1 a2 b3 most4 w R) (hr : ∀ r0 w', R r0 w' → R' r0 w') : C87 s1 a2 b3 most4 w R' :=
  Calls.mono h fun _ _ ⟨r0, he, hR⟩ => ⟨r0, he, hr _ _ hR⟩
def C57 (t1 : Option Nat) (s2 : ByteArray) (vat3 : Int) (w : World) (R : (Int × Int × Int) → World → Prop) : Prop :=
  Calls Tryz.prog 57 #[.map t1, .string s2, .int .i64 vat3] w fun e w' => ∃ r0 : Int × Int × Int, e = .returned (.agg #[.int .u8 (r0.1), .int .i64 (r0.2.1), .int .i64 (r0.2.2)]) ∧ R r0 w'
theorem C57.mono {t1 : Option Nat} {s2 : ByteArray} {vat3 : Int} {w : World} {R R' : (Int × Int × Int) → World → Prop} (h : C57 t1 s2 vat3 w R) (hr : ∀ r0 w', R r0 w' → R' r0 w') : C57 t1 s2 vat3 w R' :=
  Calls.mono h fun _ _ ⟨r0, he, hR⟩ => ⟨r0, he, hr _ _ hR⟩
def C58 (t1 : Option Nat) (s2 : ByteArray) (vfrom3 : Int) (to4 : Int) (w : World) (R : World → Prop) : Prop :=
  Calls Tryz.prog 58 #[.map t1, .string s2, .int .i64 vfrom3, .int .i64 to4] w fun e w' => e = .returned (.tuple #[]) ∧ R w'
theorem C58.mono {t1 : Option Nat} {s2 : ByteArray} {vfrom3 : Int} {to4 : Int} {w : World} {R R' : World → Prop} (h : C58 t1 s2 vfrom3 to4 w R) (hr : ∀ w', R w' → R' w') : C58 t1 s2 vfrom3 to4 w R' :=
  Calls.mono h fun _ _ ⟨he, hR⟩ => ⟨he, hr _ hR⟩
def C35 (s1 : ByteArray) (w : World) (R : Slc → World → Prop) : Prop :=
  Calls Tryz.prog 35 #[.string s1] w fun e w' => ∃ r0 : Slc, e = .returned (Slc.v r0) ∧ R r0 w'
theorem C35.mono {s1 : ByteArray} {w : World} {R R' : Slc → World → Prop} (h : C35 s1 w R) (hr : ∀ r0 w', R r0 w' → R' r0 w') : C35 s1 w R' :=
  Calls.mono h fun _ _ ⟨r0, he, hR⟩ => ⟨r0, he, hr _ _ hR⟩
def C34 (s1 : ByteArray) (w : World) (R : ByteArray → World → Prop) : Prop :=
  Calls Tryz.prog 34 #[.string s1] w fun e w' => ∃ r0 : ByteArray, e = .returned (.string r0) ∧ R r0 w'
theorem C34.mono {s1 : ByteArray} {w : World} {R R' : ByteArray → World → Prop} (h : C34 s1 w R) (hr : ∀ r0 w', R r0 w' → R' r0 w') : C34 s1 w R' :=
  Calls.mono h fun _ _ ⟨r0, he, hR⟩ => ⟨r0, he, hr _ _ hR⟩

def S112L1 (group3 : Int) (R : Int → Int → Int → World → Prop) (I9 : (Int × Int × Int) → World → Prop) (s7 : Int × Int × Int) (vw8 : World) : Prop :=
  0 ≤ s7.2.2 ∧ Br (decide (s7.1 ≥ (IntKind.i64.wrap (group3 * 2 ^ (min (s7.2.2).toNat 64))))) (0 ≤ s7.2.2 ∧ I9 (IntKind.i64.wrap (s7.1 - (IntKind.i64.wrap (group3 * 2 ^ (min (s7.2.2).toNat 64)))), IntKind.i64.wrap (s7.2.1 + group3), IntKind.i64.wrap (s7.2.2 + 1)) vw8) (0 ≤ s7.2.2 ∧ 0 ≤ s7.2.2 ∧ Lt (iand .i64 s7.1 (IntKind.i64.wrap ((IntKind.i64.wrap (1 * 2 ^ (min (s7.2.2).toNat 64))) - 1))) fun (x10 : Int) =>
    R (IntKind.i64.wrap (s7.2.1 + (Int.fdiv s7.1 (2 ^ (min (s7.2.2).toNat 64))))) x10 s7.2.2 vw8.drew)
/-- foliant/deflate.said -/
def S112 (n1 : Int) (ones2 : Int) (group3 : Int) (w : World) (R : Int → Int → Int → World → Prop) : Prop :=
  Br (decide (n1 < ones2)) (R n1 0 0 w) (Lp (σ := Int × Int × Int) (S112L1 group3 R) (IntKind.i64.wrap (n1 - ones2), ones2, 1) w)
def pl112 : Plan := (.seq (.reg .seq) (.seq (.seq (.reg .seq) (.cond (.seq (.reg .seq) .leaf) .leaf)) (.seq (.reg .seq) (.seq (.seq (.reg .seq) (.block (.loop [(0, (.one (.int .i64))), (6, (.one (.int .i64))), (8, (.one (.int .i64)))] [2] (.seq (.seq (.reg .seq) (.cond .leaf .leaf)) (.seq (.block (.reg .seq)) (.reg .seq)))))) (.seq (.reg .still) .leaf)))))
set_option maxRecDepth 100000 in
theorem T112 (n1 : Int) (ones2 : Int) (group3 : Int) (w : World) (R : Int → Int → Int → World → Prop) (h : S112 n1 ones2 group3 w R) : C112 n1 ones2 group3 w R := by
  have e : fnT Tryz.prog ⟨FF, MAY, (fun _ _ => False)⟩ pl112 Tryz.f112 [.int .i64 n1, .int .i64 ones2, .int .i64 group3] w [(.one (.int .i64)), (.one (.int .i64)), (.one (.int .i64))] (fun s w => R s.1 s.2.1 s.2.2 w) = S112 n1 ones2 group3 w R := by kernel_rfl
  exact (fn_calls okF okM Tryz.func112 (by kernel_rfl) (by kernel_rfl) (e.mpr h)).mono fun _ _ ⟨s, he, hR⟩ => ⟨s.1, s.2.1, s.2.2, he, hR⟩

/-- foliant/deflate.Sign -/
def S93 (size1 : Int) (w : World) (R : Int → Int → Int → Int → World → Prop) : Prop :=
  Br (decide (size1 < 3)) (R 0 0 0 1 w) (Br (decide (size1 > 258)) (R 0 0 0 1 w) (Br (size1 == 258) (R 285 0 0 0 w) (C112 (IntKind.i64.wrap (size1 - 3)) 8 4 w fun r2 r3 r4 vw5 =>
          R (IntKind.i64.wrap (257 + r2)) r3 r4 0 vw5)))
def pl93 : Plan := (.seq (.reg .seq) (.seq (.block (.seq (.reg .seq) (.cond (.seq (.reg .seq) .leaf) (.seq (.reg .seq) (.cond (.seq (.reg .seq) .leaf) .leaf))))) (.seq (.reg .seq) (.seq (.reg .seq) .leaf))))
set_option maxRecDepth 100000 in
theorem T93 (size1 : Int) (w : World) (R : Int → Int → Int → Int → World → Prop) (h : S93 size1 w R) : C93 size1 w R := by
  have e : fnT Tryz.prog ⟨FF, MAY, (fun _ _ => False)⟩ pl93 Tryz.f93 [.int .i64 size1] w [(.one (.int .i64)), (.one (.int .i64)), (.one (.int .i64)), (.one (.int .i64))] (fun s w => R s.1 s.2.1 s.2.2.1 s.2.2.2 w) = S93 size1 w R := by kernel_rfl
  exact (fn_calls okF okM Tryz.func93 (by kernel_rfl) (by kernel_rfl) (e.mpr h)).mono fun _ _ ⟨s, he, hR⟩ => ⟨s.1, s.2.1, s.2.2.1, s.2.2.2, he, hR⟩

/-- foliant/deflate.Back -/
def S94 (far1 : Int) (w : World) (R : Int → Int → Int → Int → World → Prop) : Prop :=
  Br (decide (far1 < 1)) (R 0 0 0 1 w) (Br (decide (far1 > 32768)) (R 0 0 0 1 w) (C112 (IntKind.i64.wrap (far1 - 1)) 4 2 w fun r2 r3 r4 vw5 =>
        R r2 r3 r4 0 vw5))
def pl94 : Plan := (.seq (.reg .seq) (.seq (.seq (.reg .seq) (.cond (.seq (.reg .seq) .leaf) .leaf)) (.seq (.reg .seq) (.seq (.reg .seq) .leaf))))
set_option maxRecDepth 100000 in
theorem T94 (far1 : Int) (w : World) (R : Int → Int → Int → Int → World → Prop) (h : S94 far1 w R) : C94 far1 w R := by
  have e : fnT Tryz.prog ⟨FF, MAY, (fun _ _ => False)⟩ pl94 Tryz.f94 [.int .i64 far1] w [(.one (.int .i64)), (.one (.int .i64)), (.one (.int .i64)), (.one (.int .i64))] (fun s w => R s.1 s.2.1 s.2.2.1 s.2.2.2 w) = S94 far1 w R := by kernel_rfl
  exact (fn_calls okF okM Tryz.func94 (by kernel_rfl) (by kernel_rfl) (e.mpr h)).mono fun _ _ ⟨s, he, hR⟩ => ⟨s.1, s.2.1, s.2.2.1, s.2.2.2, he, hR⟩

def S87L1 (s1 : ByteArray) (a2 : Int) (b3 : Int) (most4 : Int) (R : Int → World → Prop) (I7 : Int → World → Prop) (s5 : Int) (vw6 : World) : Prop :=
  Br (decide (s5 < most4)) (0 ≤ (IntKind.i64.wrap (a2 + s5)) ∧ (IntKind.i64.wrap (a2 + s5)) < ((s1).size : Nat) ∧ 0 ≤ (IntKind.i64.wrap (b3 + s5)) ∧ (IntKind.i64.wrap (b3 + s5)) < ((s1).size : Nat) ∧ Br ((bAt s1 (IntKind.i64.wrap (a2 + s5))) == (bAt s1 (IntKind.i64.wrap (b3 + s5)))) (I7 (IntKind.i64.wrap (s5 + 1)) vw6.drew) (R s5 vw6.drew)) (R s5 vw6.drew)
/-- foliant/deflate.alike -/
def S87 (s1 : ByteArray) (a2 : Int) (b3 : Int) (most4 : Int) (w : World) (R : Int → World → Prop) : Prop :=
  Lp (σ := Int) (S87L1 s1 a2 b3 most4 R) 0 w
def pl87 : Plan := (.seq (.reg .seq) (.seq (.reg .seq) (.seq (.block (.loop [(9, (.one (.int .i64)))] [0, 1, 2, 3] (.seq (.seq (.reg .still) (.cond .leaf .leaf)) (.block (.reg .seq))))) (.seq (.reg .seq) .leaf))))
set_option maxRecDepth 100000 in
theorem T87 (s1 : ByteArray) (a2 : Int) (b3 : Int) (most4 : Int) (w : World) (R : Int → World → Prop) (h : S87 s1 a2 b3 most4 w R) : C87 s1 a2 b3 most4 w R := by
  have e : fnT Tryz.prog ⟨FF, MAY, (fun _ _ => False)⟩ pl87 Tryz.f87 [.string s1, .int .i64 a2, .int .i64 b3, .int .i64 most4] w [(.one (.int .i64))] (fun s w => R s w) = S87 s1 a2 b3 most4 w R := by kernel_rfl
  exact (fn_calls okF okM Tryz.func87 (by kernel_rfl) (by kernel_rfl) (e.mpr h)).mono fun _ _ ⟨s, he, hR⟩ => ⟨s, he, hR⟩

def S57L1 (w : World) (s2 : ByteArray) (vat3 : Int) (vw4 : World) (x21 : Int) (x22 : Slc) (R : (Int × Int × Int) → World → Prop) (I26 : Int → World → Prop) (s24 : Int) (vw25 : World) : Prop :=
  Br (decide (s24 ≥ 0)) (0 ≤ s24 ∧ s24 < (x22.len : Nat) ∧ Nn x22.p fun a30 =>
    Ld vw25 (a30.add ((s24).toNat * 1)) (Value.int .i64) fun (x31 : Int) =>
    Br (decide ((IntKind.i64.wrap (vat3 - x31)) ≤ 32768)) (Ld vw25 ((⟨vw4.heap.size, 0, none⟩ : Addr).add 1) (Value.int .i64) fun (x32 : Int) =>
      Br (decide (x32 < x21)) (0 ≤ s24 ∧ s24 < (x22.len : Nat) ∧ Nn x22.p fun a33 =>
        Ld vw25 (a33.add ((s24).toNat * 1)) (Value.int .i64) fun (x34 : Int) =>
        C87 s2 x34 vat3 x21 vw25 fun r35 vw36 =>
          Ld vw36 ((⟨vw4.heap.size, 0, none⟩ : Addr).add 1) (Value.int .i64) fun (x37 : Int) =>
          Br (decide (r35 > x37)) (0 ≤ s24 ∧ s24 < (x22.len : Nat) ∧ Nn x22.p fun a38 =>
            Ld vw36 (a38.add ((s24).toNat * 1)) (Value.int .i64) fun (x39 : Int) =>
            St vw36 (⟨vw4.heap.size, 0, none⟩ : Addr) (.int .u8 0) fun vw40 =>
            St vw40 ((⟨vw4.heap.size, 0, none⟩ : Addr).add 1) (.int .i64 r35) fun vw41 =>
            St vw41 ((⟨vw4.heap.size, 0, none⟩ : Addr).add 2) (.int .i64 (IntKind.i64.wrap (vat3 - x39))) fun vw42 =>
            I26 (IntKind.i64.wrap (s24 - 1)) vw42) (I26 (IntKind.i64.wrap (s24 - 1)) vw36)) (Ld vw25 (⟨vw4.heap.size, 0, none⟩ : Addr) (Value.int .u8) fun (x43 : Int) =>
        Ld vw25 ((⟨vw4.heap.size, 0, none⟩ : Addr).add 1) (Value.int .i64) fun (x44 : Int) =>
        Ld vw25 ((⟨vw4.heap.size, 0, none⟩ : Addr).add 2) (Value.int .i64) fun (x45 : Int) =>
        St vw25 (⟨w.heap.size, 0, none⟩ : Addr) (.int .u8 x43) fun vw46 =>
        St vw46 ((⟨w.heap.size, 0, none⟩ : Addr).add 1) (.int .i64 x44) fun vw47 =>
        St vw47 ((⟨w.heap.size, 0, none⟩ : Addr).add 2) (.int .i64 x45) fun vw48 =>
        Ld vw48 (⟨w.heap.size, 0, none⟩ : Addr) (Value.int .u8) fun (x49 : Int) =>
        Ld vw48 ((⟨w.heap.size, 0, none⟩ : Addr).add 1) (Value.int .i64) fun (x50 : Int) =>
        Ld vw48 ((⟨w.heap.size, 0, none⟩ : Addr).add 2) (Value.int .i64) fun (x51 : Int) =>
        R (x49, x50, x51) vw48)) (Ld vw25 (⟨vw4.heap.size, 0, none⟩ : Addr) (Value.int .u8) fun (x52 : Int) =>
      Ld vw25 ((⟨vw4.heap.size, 0, none⟩ : Addr).add 1) (Value.int .i64) fun (x53 : Int) =>
      Ld vw25 ((⟨vw4.heap.size, 0, none⟩ : Addr).add 2) (Value.int .i64) fun (x54 : Int) =>
      St vw25 (⟨w.heap.size, 0, none⟩ : Addr) (.int .u8 x52) fun vw55 =>
      St vw55 ((⟨w.heap.size, 0, none⟩ : Addr).add 1) (.int .i64 x53) fun vw56 =>
      St vw56 ((⟨w.heap.size, 0, none⟩ : Addr).add 2) (.int .i64 x54) fun vw57 =>
      Ld vw57 (⟨w.heap.size, 0, none⟩ : Addr) (Value.int .u8) fun (x58 : Int) =>
      Ld vw57 ((⟨w.heap.size, 0, none⟩ : Addr).add 1) (Value.int .i64) fun (x59 : Int) =>
      Ld vw57 ((⟨w.heap.size, 0, none⟩ : Addr).add 2) (Value.int .i64) fun (x60 : Int) =>
      R (x58, x59, x60) vw57)) (Ld vw25 (⟨vw4.heap.size, 0, none⟩ : Addr) (Value.int .u8) fun (x61 : Int) =>
    Ld vw25 ((⟨vw4.heap.size, 0, none⟩ : Addr).add 1) (Value.int .i64) fun (x62 : Int) =>
    Ld vw25 ((⟨vw4.heap.size, 0, none⟩ : Addr).add 2) (Value.int .i64) fun (x63 : Int) =>
    St vw25 (⟨w.heap.size, 0, none⟩ : Addr) (.int .u8 x61) fun vw64 =>
    St vw64 ((⟨w.heap.size, 0, none⟩ : Addr).add 1) (.int .i64 x62) fun vw65 =>
    St vw65 ((⟨w.heap.size, 0, none⟩ : Addr).add 2) (.int .i64 x63) fun vw66 =>
    Ld vw66 (⟨w.heap.size, 0, none⟩ : Addr) (Value.int .u8) fun (x67 : Int) =>
    Ld vw66 ((⟨w.heap.size, 0, none⟩ : Addr).add 1) (Value.int .i64) fun (x68 : Int) =>
    Ld vw66 ((⟨w.heap.size, 0, none⟩ : Addr).add 2) (Value.int .i64) fun (x69 : Int) =>
    R (x67, x68, x69) vw66)
/-- (foliant/deflate.trail).copied -/
def S57 (t1 : Option Nat) (s2 : ByteArray) (vat3 : Int) (w : World) (R : (Int × Int × Int) → World → Prop) : Prop :=
  Nw w (.cells #[.int .u8 0, .int .i64 0, .int .i64 0] 91) fun vw4 =>
  Nw vw4 (.cells #[.int .u8 0, .int .i64 0, .int .i64 0] 91) fun vw5 =>
  Br (decide ((IntKind.i64.wrap (vat3 + 3)) > (((s2).size : Nat) : Int))) (Ld vw5 (⟨vw4.heap.size, 0, none⟩ : Addr) (Value.int .u8) fun (x12 : Int) =>
    Ld vw5 ((⟨vw4.heap.size, 0, none⟩ : Addr).add 1) (Value.int .i64) fun (x13 : Int) =>
    Ld vw5 ((⟨vw4.heap.size, 0, none⟩ : Addr).add 2) (Value.int .i64) fun (x14 : Int) =>
    St vw5 (⟨w.heap.size, 0, none⟩ : Addr) (.int .u8 x12) fun vw15 =>
    St vw15 ((⟨w.heap.size, 0, none⟩ : Addr).add 1) (.int .i64 x13) fun vw16 =>
    St vw16 ((⟨w.heap.size, 0, none⟩ : Addr).add 2) (.int .i64 x14) fun vw17 =>
    Ld vw17 (⟨w.heap.size, 0, none⟩ : Addr) (Value.int .u8) fun (x18 : Int) =>
    Ld vw17 ((⟨w.heap.size, 0, none⟩ : Addr).add 1) (Value.int .i64) fun (x19 : Int) =>
    Ld vw17 ((⟨w.heap.size, 0, none⟩ : Addr).add 2) (Value.int .i64) fun (x20 : Int) =>
    R (x18, x19, x20) vw17) (Lt ((if (IntKind.i64.wrap ((((s2).size : Nat) : Int) - vat3)) < 258 then (IntKind.i64.wrap ((((s2).size : Nat) : Int) - vat3)) else 258)) fun (x21 : Int) =>
    0 ≤ (IntKind.i64.wrap (vat3 + 3)) ∧ (IntKind.i64.wrap (vat3 + 3)) ≤ (((s2).size : Nat) : Int) ∧ 0 ≤ vat3 ∧ vat3 ≤ (((IntKind.i64.wrap (vat3 + 3)).toNat : Nat) : Int) ∧ Rn Tryz.prog (Instr.lookup 89 (.map t1) (.string (s2.extract ((vat3).toNat) ((IntKind.i64.wrap (vat3 + 3)).toNat))) false) vw5 Slc.v fun (x22 : Slc) vw23 =>
    Lp (σ := Int) (S57L1 w s2 vat3 vw4 x21 x22 R) (IntKind.i64.wrap (((x22.len : Nat) : Int) - 1)) vw23)
def pl57 : Plan := (.seq (.reg .seq) (.seq (.reg .seq) (.seq (.seq (.reg .seq) (.cond (.seq (.reg .seq) .leaf) .leaf)) (.seq (.reg .seq) (.seq (.reg .seq) (.seq (.seq (.reg .seq) (.block (.loop [(10, (.one (.int .i64)))] [1, 2, 6, 7, 8, 9] (.seq (.seq (.reg .seq) (.cond .leaf .leaf)) (.seq (.block (.seq (.reg .seq) (.seq (.reg .seq) (.cond (.reg .seq) .leaf)))) (.reg .seq)))))) (.seq (.reg .seq) .leaf)))))))
set_option maxRecDepth 100000 in
theorem T57 (t1 : Option Nat) (s2 : ByteArray) (vat3 : Int) (w : World) (R : (Int × Int × Int) → World → Prop) (h : S57 t1 s2 vat3 w R) : C57 t1 s2 vat3 w R := by
  have e : fnT Tryz.prog ⟨FF, MAY, (fun _ _ => False)⟩ pl57 Tryz.f57 [.map t1, .string s2, .int .i64 vat3] w [(.agg [(.int .u8), (.int .i64), (.int .i64)])] (fun s w => R s w) = S57 t1 s2 vat3 w R := by kernel_rfl
  exact (fn_calls okF okM Tryz.func57 (by kernel_rfl) (by kernel_rfl) (e.mpr h)).mono fun _ _ ⟨s, he, hR⟩ => ⟨s, he, hR⟩

def S58L1 (t1 : Option Nat) (s2 : ByteArray) (to4 : Int) (R : World → Prop) (I7 : Int → World → Prop) (s5 : Int) (vw6 : World) : Prop :=
  Br (decide (s5 < to4)) (Br (decide ((IntKind.i64.wrap (s5 + 3)) ≤ (((s2).size : Nat) : Int))) (0 ≤ (IntKind.i64.wrap (s5 + 3)) ∧ (IntKind.i64.wrap (s5 + 3)) ≤ (((s2).size : Nat) : Int) ∧ 0 ≤ s5 ∧ s5 ≤ (((IntKind.i64.wrap (s5 + 3)).toNat : Nat) : Int) ∧ 0 ≤ (IntKind.i64.wrap (s5 + 3)) ∧ (IntKind.i64.wrap (s5 + 3)) ≤ (((s2).size : Nat) : Int) ∧ 0 ≤ s5 ∧ s5 ≤ (((IntKind.i64.wrap (s5 + 3)).toNat : Nat) : Int) ∧ (Rn Tryz.prog (Instr.lookup 89 (.map t1) (.string (s2.extract ((s5).toNat) ((IntKind.i64.wrap (s5 + 3)).toNat))) false) vw6.drew Slc.v fun (x8 : Slc) vw9 =>
        Nw vw9 (.cells #[.int .i64 s5] 3) fun vw10 =>
        Rn Tryz.prog (Builtin.append_ #[76, 76] 76 #[Slc.v x8, Slc.v ((⟨some ⟨vw9.heap.size, 0, none⟩, 1, 1⟩ : Slc))]) vw10 Slc.v fun (x11 : Slc) vw12 =>
        Ru Tryz.prog (Instr.mapUpdate 89 (.map t1) (.string (s2.extract ((s5).toNat) ((IntKind.i64.wrap (s5 + 3)).toNat))) (Slc.v x11)) vw12 fun vw13 =>
        I7 (IntKind.i64.wrap (s5 + 1)) vw13) ∧
      (Nw vw6.drew (.cells #[.int .i64 s5] 3) fun vw14 =>
        Rn Tryz.prog (Instr.lookup 89 (.map t1) (.string (s2.extract ((s5).toNat) ((IntKind.i64.wrap (s5 + 3)).toNat))) false) vw14 Slc.v fun (x15 : Slc) vw16 =>
        Rn Tryz.prog (Builtin.append_ #[76, 76] 76 #[Slc.v x15, Slc.v ((⟨some ⟨vw6.drew.heap.size, 0, none⟩, 1, 1⟩ : Slc))]) vw16 Slc.v fun (x17 : Slc) vw18 =>
        Ru Tryz.prog (Instr.mapUpdate 89 (.map t1) (.string (s2.extract ((s5).toNat) ((IntKind.i64.wrap (s5 + 3)).toNat))) (Slc.v x17)) vw18 fun vw19 =>
        I7 (IntKind.i64.wrap (s5 + 1)) vw19)) (R vw6)) (R vw6)
/-- (foliant/deflate.trail).add -/
def S58 (t1 : Option Nat) (s2 : ByteArray) (vfrom3 : Int) (to4 : Int) (w : World) (R : World → Prop) : Prop :=
  Lp (σ := Int) (S58L1 t1 s2 to4 R) vfrom3 w
def pl58 : Plan := (.seq (.reg .seq) (.block (.loop [(8, (.one (.int .i64)))] [0, 1, 3] (.seq (.seq (.reg .seq) (.cond .leaf .leaf)) (.seq (.block (.reg (.held [12, 14] (.take 0 (.take 1 (.take 2 (.take 3 (.take 4 (.take 5 (.take 6 (.take 7 (.take 8 (.take 9 (.take 10 (.take 11 (.take 13 (.effs 12 (some [14]) (.eff 14 (some [15]) (.eff 15 (some [16]) (.eff 16 (some []) .done))) (.eff 14 (some [12]) (.eff 12 (some [15]) (.eff 15 (some [16]) (.eff 16 (some []) .done))))))))))))))))))))) (.reg .seq))))))
set_option maxRecDepth 100000 in
theorem T58 (t1 : Option Nat) (s2 : ByteArray) (vfrom3 : Int) (to4 : Int) (w : World) (R : World → Prop) (h : S58 t1 s2 vfrom3 to4 w R) : C58 t1 s2 vfrom3 to4 w R := by
  have e : fnT Tryz.prog ⟨FF, MAY, (fun _ _ => False)⟩ pl58 Tryz.f58 [.map t1, .string s2, .int .i64 vfrom3, .int .i64 to4] w [] (fun _ w => R w) = S58 t1 s2 vfrom3 to4 w R := by kernel_rfl
  exact (fn_calls okF okM Tryz.func58 (by kernel_rfl) (by kernel_rfl) (e.mpr h)).mono fun _ _ ⟨_, he, hR⟩ => ⟨he, hR⟩

def S35L1 (w : World) (s1 : ByteArray) (R : Slc → World → Prop) (I5 : (Slc × Int) → World → Prop) (s3 : Slc × Int) (vw4 : World) : Prop :=
  Br (decide (s3.2 < (((s1).size : Nat) : Int))) (C57 (some w.heap.size) s1 s3.2 vw4 fun r6 vw7 =>
      Nw vw7 (.cells #[.int .u8 0, .int .i64 0, .int .i64 0] 91) fun vw8 =>
      St vw8 (⟨vw7.heap.size, 0, none⟩ : Addr) (.int .u8 (r6.1)) fun vw9 =>
      St vw9 ((⟨vw7.heap.size, 0, none⟩ : Addr).add 1) (.int .i64 (r6.2.1)) fun vw10 =>
      St vw10 ((⟨vw7.heap.size, 0, none⟩ : Addr).add 2) (.int .i64 (r6.2.2)) fun vw11 =>
      Ld vw11 ((⟨vw7.heap.size, 0, none⟩ : Addr).add 1) (Value.int .i64) fun (x12 : Int) =>
      Ld vw11 ((⟨vw7.heap.size, 0, none⟩ : Addr).add 1) (Value.int .i64) fun (x15 : Int) =>
      Br (x15 == 0) (0 ≤ s3.2 ∧ s3.2 < ((s1).size : Nat) ∧ St vw11 (⟨vw7.heap.size, 0, none⟩ : Addr) (.int .u8 (bAt s1 s3.2)) fun vw16 =>
        Ld vw16 (⟨vw7.heap.size, 0, none⟩ : Addr) (Value.int .u8) fun (x17 : Int) =>
        Ld vw16 ((⟨vw7.heap.size, 0, none⟩ : Addr).add 1) (Value.int .i64) fun (x18 : Int) =>
        Ld vw16 ((⟨vw7.heap.size, 0, none⟩ : Addr).add 2) (Value.int .i64) fun (x19 : Int) =>
        Nw vw16 (.cells #[.int .u8 x17, .int .i64 x18, .int .i64 x19] 91) fun vw20 =>
        Rn Tryz.prog (Builtin.append_ #[63, 63] 63 #[Slc.v s3.1, Slc.v ((⟨some ⟨vw16.heap.size, 0, none⟩, 1, 1⟩ : Slc))]) vw20 Slc.v fun (x21 : Slc) vw22 =>
        C58 (some w.heap.size) s1 s3.2 (IntKind.i64.wrap (s3.2 + (if 1 > x12 then 1 else x12))) vw22 fun vw23 =>
          I5 (x21, IntKind.i64.wrap (s3.2 + (if 1 > x12 then 1 else x12))) vw23) (Ld vw11 (⟨vw7.heap.size, 0, none⟩ : Addr) (Value.int .u8) fun (x24 : Int) =>
        Ld vw11 ((⟨vw7.heap.size, 0, none⟩ : Addr).add 1) (Value.int .i64) fun (x25 : Int) =>
        Ld vw11 ((⟨vw7.heap.size, 0, none⟩ : Addr).add 2) (Value.int .i64) fun (x26 : Int) =>
        Nw vw11 (.cells #[.int .u8 x24, .int .i64 x25, .int .i64 x26] 91) fun vw27 =>
        Rn Tryz.prog (Builtin.append_ #[63, 63] 63 #[Slc.v s3.1, Slc.v ((⟨some ⟨vw11.heap.size, 0, none⟩, 1, 1⟩ : Slc))]) vw27 Slc.v fun (x28 : Slc) vw29 =>
        C58 (some w.heap.size) s1 s3.2 (IntKind.i64.wrap (s3.2 + (if 1 > x12 then 1 else x12))) vw29 fun vw30 =>
          I5 (x28, IntKind.i64.wrap (s3.2 + (if 1 > x12 then 1 else x12))) vw30)) (R s3.1 vw4)
/-- foliant/deflate.Parts -/
def S35 (s1 : ByteArray) (w : World) (R : Slc → World → Prop) : Prop :=
  Br (decide ((((s1).size : Nat) : Int) > 1048576)) (R (⟨none, 0, 0⟩ : Slc) w) (Nw w (.map #[] 0) fun vw2 =>
    Lp (σ := Slc × Int) (S35L1 w s1 R) ((⟨none, 0, 0⟩ : Slc), 0) vw2)
def pl35 : Plan := (.seq (.reg .seq) (.seq (.seq (.reg .seq) (.cond (.seq (.reg .seq) .leaf) .leaf)) (.seq (.reg .seq) (.seq (.reg .seq) (.seq (.seq (.reg .seq) (.block (.loop [(3, (.one .slc)), (5, (.one (.int .i64)))] [0, 4] (.seq (.seq (.reg .seq) (.cond .leaf .leaf)) (.block (.seq (.reg .seq) (.seq (.reg .seq) (.seq (.seq (.reg .seq) (.cond (.reg .seq) .leaf)) (.seq (.reg .seq) (.seq (.reg .seq) (.reg .seq))))))))))) (.seq (.reg .seq) .leaf))))))
set_option maxRecDepth 100000 in
theorem T35 (s1 : ByteArray) (w : World) (R : Slc → World → Prop) (h : S35 s1 w R) : C35 s1 w R := by
  have e : fnT Tryz.prog ⟨FF, MAY, (fun _ _ => False)⟩ pl35 Tryz.f35 [.string s1] w [(.one .slc)] (fun s w => R s w) = S35 s1 w R := by kernel_rfl
  exact (fn_calls okF okM Tryz.func35 (by kernel_rfl) (by kernel_rfl) (e.mpr h)).mono fun _ _ ⟨s, he, hR⟩ => ⟨s, he, hR⟩

def S34J1 (r2 : Option Addr) (s4 : ByteArray) (I6 : ByteArray → World → Prop) (R : ByteArray → World → Prop) (s8 : Int) (vw9 : World) : Prop :=
  C53 r2 s8 1 vw9 fun r10 vw11 =>
    C53 r2 0 2 vw11 fun r12 vw13 =>
      C54 r2 vw13 fun vw14 =>
        C53 r2 (if 65535 < (((s4).size : Nat) : Int) then 65535 else (((s4).size : Nat) : Int)) 16 vw14 fun r15 vw16 =>
          Lt (IntKind.i64.wrap (65535 - (if 65535 < (((s4).size : Nat) : Int) then 65535 else (((s4).size : Nat) : Int)))) fun (x17 : Int) =>
          C53 r2 x17 16 vw16 fun r18 vw19 =>
            C54 r2 vw19 fun vw20 =>
              0 ≤ (if 65535 < (((s4).size : Nat) : Int) then 65535 else (((s4).size : Nat) : Int)) ∧ (if 65535 < (((s4).size : Nat) : Int) then 65535 else (((s4).size : Nat) : Int)) ≤ (((s4).size : Nat) : Int) ∧ Lt (s4.extract 0 (((if 65535 < (((s4).size : Nat) : Int) then 65535 else (((s4).size : Nat) : Int))).toNat)) fun (x21 : ByteArray) =>
              C55 r2 x21 vw20 fun vw22 =>
                0 ≤ (if 65535 < (((s4).size : Nat) : Int) then 65535 else (((s4).size : Nat) : Int)) ∧ (if 65535 < (((s4).size : Nat) : Int) then 65535 else (((s4).size : Nat) : Int)) ≤ (((s4).size : Nat) : Int) ∧ Lt (s4.extract (((if 65535 < (((s4).size : Nat) : Int) then 65535 else (((s4).size : Nat) : Int))).toNat) ((s4).size)) fun (x23 : ByteArray) =>
                Br (s8 == 1) (C56 r2 vw22 fun r24 vw25 =>
                    R r24 vw25) (I6 x23 vw22)
def S34L1 (r2 : Option Addr) (R : ByteArray → World → Prop) (I6 : ByteArray → World → Prop) (s4 : ByteArray) (vw5 : World) : Prop :=
  Join (S34J1 r2 s4 I6 R) fun (vJ26 : Int → World → Prop) =>
    Lt ((if 65535 < (((s4).size : Nat) : Int) then 65535 else (((s4).size : Nat) : Int)) == (((s4).size : Nat) : Int)) fun (x27 : Bool) =>
    Br x27 (vJ26 1 vw5) (vJ26 0 vw5)
/-- foliant/deflate.stored -/
def S34 (s1 : ByteArray) (w : World) (R : ByteArray → World → Prop) : Prop :=
  C52 w fun r2 vw3 =>
    Lp (σ := ByteArray) (S34L1 r2 R) s1 vw3
def pl34 : Plan := (.seq (.reg .seq) (.seq (.reg .seq) (.block (.loop [(0, (.one .str))] [3] (.block (.seq (.reg .seq) (.seq (.reg .seq) (.join [(5, (.one (.int .i64)))] [0, 3, 4] (.seq (.reg .seq) (.cond (.reg .seq) .leaf)) (.seq (.reg .seq) (.seq (.reg .seq) (.seq (.reg .seq) (.seq (.reg .seq) (.seq (.reg .seq) (.seq (.reg .seq) (.seq (.reg .seq) (.seq (.reg .seq) (.seq (.reg .seq) (.cond (.seq (.reg .seq) .leaf) .leaf))))))))))))))))))
set_option maxRecDepth 100000 in
theorem T34 (s1 : ByteArray) (w : World) (R : ByteArray → World → Prop) (h : S34 s1 w R) : C34 s1 w R := by
  have e : fnT Tryz.prog ⟨FF, MAY, (fun _ _ => False)⟩ pl34 Tryz.f34 [.string s1] w [(.one .str)] (fun s w => R s w) = S34 s1 w R := by kernel_rfl
  exact (fn_calls okF okM Tryz.func34 (by kernel_rfl) (by kernel_rfl) (e.mpr h)).mono fun _ _ ⟨s, he, hR⟩ => ⟨s, he, hR⟩

end Go.Proofs.YtjkoafjnmkchdaaGreatDoor

/- Deflate: the sign of a length or a distance, both sides. No condition. -/
namespace Go.Proofs.YtjkoafjnmkchdaaGreatDoor
namespace Inf
open Sh Bit
set_option linter.unusedVariables false
set_option linter.unusedSimpArgs false
set_option maxRecDepth 4000
set_option maxHeartbeats 1000000
attribute [local irreducible] Ld St Nw Nn Lt LdS
/-- What the sign of a size is. -/
def sgnF (v : Int) : Int × Int × Int × Int := if v < 3 ∨ 258 < v then (0, 0, 0, 1) else (((257 + kL v.toNat : Nat) : Int), ((v.toNat - firstL (kL v.toNat) : Nat) : Int), ((moreL (kL v.toNat) : Nat) : Int), 0)
def bckF (v : Int) : Int × Int × Int × Int := if v < 1 ∨ 32768 < v then (0, 0, 0, 1) else (((kD v.toNat : Nat) : Int), ((v.toNat - baseD (kD v.toNat) : Nat) : Int), ((moreD (kD v.toNat) : Nat) : Int), 0)
theorem spr_small {first each : Nat} (he : 2 ≤ each) : ∀ k, k ≤ 2 * each → spr first each k = first + k
  | 0, _ => rfl
  | k + 1, h => by
    show spr first each k + 2 ^ (k / each - 1) = _
    have : k / each ≤ 1 := by
      have := (Nat.div_lt_iff_lt_mul (by omega : 0 < each)).2 (show k < 2 * each by omega)
      omega
    rw [spr_small he k (by omega), show k / each - 1 = 0 by omega]
    omega
theorem spr_step {first each j : Nat} (he : 2 ≤ each) : ∀ q, q ≤ each → spr first each (each * (j + 2) + q) = spr first each (each * (j + 2)) + q * 2 ^ (j + 1)
  | 0, _ => by simp
  | q + 1, h => by
    show spr first each (each * (j + 2) + q) + 2 ^ ((each * (j + 2) + q) / each - 1) = _
    have : (each * (j + 2) + q) / each = j + 2 := by
      rw [Nat.mul_add_div (by omega), Nat.div_eq_of_lt (by omega)]
    rw [spr_step he q (by omega), this, show j + 2 - 1 = j + 1 by omega, Nat.add_mul, Nat.one_mul, Nat.add_assoc]
theorem mask_mod {x m : Nat} (hx : x < 2 ^ 40) (hm : m ≤ 30) : iand .i64 (x : Int) (IntKind.i64.wrap (IntKind.i64.wrap (1 * 2 ^ (min ((m : Int)).toNat 64)) - 1)) = ((x % 2 ^ m : Nat) : Int) := by
  have hp : 2 ^ m ≤ 2 ^ 30 := Nat.pow_le_pow_right (by omega) hm
  have h0 : 0 < 2 ^ m := Nat.pow_pos (by decide)
  rw [sh1 rfl hm, ← Nat.and_two_pow_sub_one_eq_mod]
  generalize 2 ^ m = P at hp h0
  rw [i64_id (by omega), show (P : Int) - 1 = ((P - 1 : Nat) : Int) by omega, iand_nat (by omega) (by omega)]
theorem spr_ge (first each : Nat) : ∀ k, first ≤ spr first each k
  | 0 => Nat.le_refl _
  | k + 1 => Nat.le_trans (spr_ge first each k) (Nat.le_add_right _ _)
/-- foliant/deflate.said. -/
theorem c_said {first each : Nat} (he : each = 2 ∨ each = 4) {n : Nat} (hn : n ≤ 40000) (w : World) : C112 (n : Int) ((2 * each : Nat) : Int) (each : Int) w fun r0 r1 r2 w1 => ∃ k : Nat, r0 = (k : Int) ∧ spr first each k ≤ first + n ∧ first + n < spr first each (k + 1) ∧ r1 = ((first + n - spr first each k : Nat) : Int) ∧ r2 = ((k / each - 1 : Nat) : Int) ∧ Ext (fun _ => False) w w1 := by
  have h2 : 2 ≤ each := by omega
  refine T112 _ _ _ _ _ ?_
  unfold S112
  refine Br.dec (fun q => ?_) fun q => ?_
  · have : n / each ≤ 1 := by
      have := (Nat.div_lt_iff_lt_mul (by omega : 0 < each)).2 (show n < 2 * each by omega)
      omega
    exact ⟨n, rfl, by rw [spr_small h2 n (by omega)]; omega, by rw [spr_small h2 (n + 1) (by omega)]; omega, by rw [spr_small h2 n (by omega)]; omega, by rw [show n / each - 1 = 0 by omega]; rfl, Ext.refl _ _⟩
  · refine ⟨fun m st w3 => ∃ j : Nat, m = 40 - j ∧ j ≤ 14 ∧ spr first each (each * (j + 2)) ≤ first + n ∧ st = (((first + n - spr first each (each * (j + 2)) : Nat) : Int), ((each * (j + 2) : Nat) : Int), ((j + 1 : Nat) : Int)) ∧ w3 = w, 40, ?_, ?_⟩
    · have e0 : spr first each (each * (0 + 2)) = first + 2 * each := by rw [show each * (0 + 2) = 2 * each by omega, spr_small h2 _ (Nat.le_refl _)]
      refine ⟨0, rfl, by omega, by rw [e0]; omega, ?_, rfl⟩
      rw [e0, i64_id (by omega), show ((n : Nat) : Int) - ((2 * each : Nat) : Int) = ((first + n - (first + 2 * each) : Nat) : Int) by omega, show each * (0 + 2) = 2 * each by omega]
      rfl
    · rintro m st _ ⟨j, rfl, hj, hle, rfl, rfl⟩
      unfold S112L1
      dsimp only
      have hp : 2 ^ (j + 1) ≤ 2 ^ 15 := Nat.pow_le_pow_right (by omega) (by omega)
      have hp0 : 0 < 2 ^ (j + 1) := Nat.pow_pos (by decide)
      have hge := spr_ge first each (each * (j + 2))
      have e2 : (each : Int) * 2 ^ (min (((j + 1 : Nat) : Int)).toNat 64) = ((each * 2 ^ (j + 1) : Nat) : Int) := by rw [Int.toNat_natCast, Nat.min_eq_left (by omega)]; simp
      have hm1 : each * 2 ^ (j + 1) ≤ 4 * 2 ^ 15 := Nat.mul_le_mul (by omega) hp
      have eW : IntKind.i64.wrap ((each * 2 ^ (j + 1) : Nat) : Int) = ((each * 2 ^ (j + 1) : Nat) : Int) := i64_id (by omega)
      have st1 := spr_step (first := first) (j := j) h2 each (Nat.le_refl _)
      have em : each * (j + 2) + each = each * (j + 1 + 2) := by rw [← Nat.mul_succ]
      rw [em] at st1
      have hmul : each * (j + 2) ≤ 4 * 16 := Nat.mul_le_mul (by omega) (by omega)
      refine ⟨by omega, ?_⟩
      rw [e2, eW]
      refine Br.dec (fun q2 => ⟨by omega, ?_⟩) fun q2 => ⟨by omega, by omega, Lt.of ?_⟩
      · have hj2 : j + 1 ≤ 14 := by
          rcases Nat.lt_or_ge j 14 with h | h
          · omega
          · have : j = 14 := by omega
            subst this
            omega
        refine ⟨40 - (j + 1), by omega, j + 1, rfl, hj2, by rw [st1]; omega, ?_, rfl⟩
        rw [st1, i64_id (by omega), i64_id (by omega), i64_id (by omega)]
        refine Prod.ext ?_ (Prod.ext ?_ ?_)
        · show (_ : Int) = _; dsimp only; omega
        · show (_ : Int) = _; dsimp only; rw [← em]; omega
        · show (_ : Int) = _; dsimp only; omega
      · have hx : first + n - spr first each (each * (j + 2)) < each * 2 ^ (j + 1) := by omega
        generalize hxe : first + n - spr first each (each * (j + 2)) = x at hx
        have hq : x / 2 ^ (j + 1) < each := (Nat.div_lt_iff_lt_mul hp0).2 hx
        have hdm := Nat.div_add_mod x (2 ^ (j + 1))
        have hmod := Nat.mod_lt x hp0
        have s1 := spr_step (first := first) (j := j) h2 (x / 2 ^ (j + 1)) (by omega)
        have s2 := spr_step (first := first) (j := j) h2 (x / 2 ^ (j + 1) + 1) (by omega)
        rw [Nat.add_mul, Nat.one_mul] at s2
        rw [Nat.mul_comm] at hdm
        have efd : Int.fdiv (x : Int) (2 ^ (min (((j + 1 : Nat) : Int)).toNat 64)) = ((x / 2 ^ (j + 1) : Nat) : Int) := by
          rw [Int.toNat_natCast, Nat.min_eq_left (by omega), fdiv_pow]
          simp
        have ediv : (each * (j + 2) + x / 2 ^ (j + 1)) / each = j + 2 := by
          rw [Nat.mul_add_div (by omega), Nat.div_eq_of_lt hq]
        have hxb : x < 2 ^ 40 := by omega
        refine ⟨each * (j + 2) + x / 2 ^ (j + 1), ?_, by rw [s1]; omega, by rw [Nat.add_assoc, s2]; omega, ?_, by rw [ediv]; rfl, (Ext.refl _ _).drew⟩
        · rw [efd]
          generalize x / 2 ^ (j + 1) = qq at hq ⊢
          rw [i64_id (by omega)]
          omega
        · rw [mask_mod hxb (by omega), s1]; omega
theorem c_Sign (v : Int) (w : World) : C93 v w fun a b c e w1 => (a, b, c, e) = sgnF v ∧ Ext (fun _ => False) w w1 := by
  refine T93 _ _ _ ?_
  unfold S93 sgnF
  refine Br.dec (fun q => ⟨by rw [if_pos (.inl q)], Ext.refl _ _⟩) fun q => Br.dec (fun q2 => ⟨by rw [if_pos (.inr q2)], Ext.refl _ _⟩) fun q2 => ?_
  rw [if_neg (by omega)]
  obtain ⟨n, rfl⟩ : ∃ n : Nat, v = (n : Int) := ⟨v.toNat, by omega⟩
  rw [Int.toNat_natCast]
  refine Br.eq (fun q3 => ?_) fun q3 => ?_
  · have : n = 258 := by omega
    subst this
    exact ⟨rfl, Ext.refl _ _⟩
  · rw [i64_id (by omega), show (n : Int) - 3 = ((n - 3 : Nat) : Int) by omega]
    refine (c_said (first := 3) (each := 4) (.inr rfl) (n := n - 3) (by omega) w).mono ?_
    rintro a b c w1 ⟨k, rfl, h1, h2, rfl, rfl, he⟩
    rw [spr_L] at h1 h2 ⊢
    have hk := kL_eq (v := n) (k := k) (by omega) (by omega) (by omega) (by omega)
    obtain ⟨k1, k2, k3, k4⟩ := kL_spec (v := n) (by omega) (by omega)
    rw [← hk] at k1 k2 k3 k4 ⊢
    have hne : k ≠ 28 := by omega
    have hf : firstL k = baseL k := by unfold firstL; rw [if_neg hne]
    have hm : moreL k = k / 4 - 1 := by unfold moreL; rw [if_neg hne]
    rw [i64_id (by omega), hf, hm]
    refine ⟨?_, he⟩
    refine Prod.ext ?_ (Prod.ext ?_ rfl)
    · show (_ : Int) = _; dsimp only; omega
    · show (_ : Int) = _; dsimp only; omega
theorem c_Back (v : Int) (w : World) : C94 v w fun a b c e w1 => (a, b, c, e) = bckF v ∧ Ext (fun _ => False) w w1 := by
  refine T94 _ _ _ ?_
  unfold S94 bckF
  refine Br.dec (fun q => ⟨by rw [if_pos (.inl q)], Ext.refl _ _⟩) fun q => Br.dec (fun q2 => ⟨by rw [if_pos (.inr q2)], Ext.refl _ _⟩) fun q2 => ?_
  rw [if_neg (by omega)]
  obtain ⟨n, rfl⟩ : ∃ n : Nat, v = (n : Int) := ⟨v.toNat, by omega⟩
  rw [Int.toNat_natCast]
  rw [i64_id (by omega), show (n : Int) - 1 = ((n - 1 : Nat) : Int) by omega]
  refine (c_said (first := 1) (each := 2) (.inl rfl) (n := n - 1) (by omega) w).mono ?_
  rintro a b c w1 ⟨k, rfl, h1, h2, rfl, rfl, he⟩
  rw [spr_D] at h1 h2 ⊢
  have hk := kD_eq (v := n) (k := k) (by omega) (by omega) (by omega) (by omega)
  rw [← hk]
  refine ⟨?_, he⟩
  refine Prod.ext rfl (Prod.ext ?_ rfl)
  show (_ : Int) = _; dsimp only; omega
/-! ### The reference's -/
/-- What the sign says is the size. -/
theorem size_back {v : Int} (h : ¬ (v < 3 ∨ 258 < v)) : sizeF (sgnF v).1 (sgnF v).2.1 = (v, 0) := by
  obtain ⟨n, rfl⟩ : ∃ n : Nat, v = (n : Int) := ⟨v.toNat, by omega⟩
  obtain ⟨a, b, c, d⟩ := kL_spec (v := n) (by omega) (by omega)
  have e2 : ((2 ^ moreL (kL n) : Nat) : Int) = 2 ^ moreL (kL n) := by simp
  unfold sgnF sizeF
  rw [if_neg h, Int.toNat_natCast]
  dsimp only
  rw [if_neg (by omega), show (((257 + kL n : Nat) : Int) - 257).toNat = kL n by omega]
  rw [if_neg (by omega)]
  refine Prod.ext ?_ rfl
  show (_ : Int) = _; dsimp only; omega
theorem far_back {v : Int} (h : ¬ (v < 1 ∨ 32768 < v)) : farF (bckF v).1 (bckF v).2.1 = (v, 0) := by
  obtain ⟨n, rfl⟩ : ∃ n : Nat, v = (n : Int) := ⟨v.toNat, by omega⟩
  obtain ⟨a, b, c⟩ := kD_spec (v := n) (by omega) (by omega)
  have e2 : ((2 ^ moreD (kD n) : Nat) : Int) = 2 ^ moreD (kD n) := by simp
  unfold bckF farF
  rw [if_neg h, Int.toNat_natCast]
  dsimp only
  rw [if_neg (by omega), Int.toNat_natCast]
  rw [if_neg (by omega)]
  refine Prod.ext ?_ rfl
  show (_ : Int) = _; dsimp only; omega
end Inf
end Go.Proofs.YtjkoafjnmkchdaaGreatDoor

/- append to a slice that has no room, or to an empty one. Conditions: sizes. -/
namespace Go.Proofs.YtjkoafjnmkchdaaGreatDoor
namespace Sh
set_option linter.unusedVariables false
set_option linter.unusedSimpArgs false
section
variable {P : Program} {t e : TypeId} {k B : Nat} {z : Value} {w : World} {s : Slc} {ty : TypeId} {xs ys news : List Value} {i : TypeInfo} {x : Value} {m len : Nat} {a : Addr}
/-- append to a slice without room. -/
theorem append_fullB (ht : P.underlying t = some (.slice e)) (hi : P.info? e = some i) (hz : i.zero = some z) (hzs : z.cells.size = i.size) (hm : 0 < m)
    (hlen : Builtin.lenOf x = pure m) (hcells : ∀ w' : World, w'.heap = w.heap → (Builtin.firstCells i.size m x).run P w' = .ok news.toArray w') (hl : news.length = m * i.size)
    (hx1 : xs.length = len * i.size) (holds : ∀ j v, xs[j]? = some v → w.cell? (a.add j) = some v) (hb : (len + m) * i.bytes ≤ 140737488355328) (h63 : len + m ≤ 9223372036854775807) :
    ∃ s' w', RunV P (Builtin.append_ #[t, t] ty #[Slc.v ⟨some a, len, len⟩, x]) w (Slc.v s') w' ∧ Row w' s' e i.size (xs ++ news) ∧ s'.len = len + m ∧ Ext (fun _ => False) w w' ∧ ∀ j, s'.own j → w.heap.size ≤ j := by
  have hlenr : (xs ++ news).length = (len + m) * i.size := by rw [List.length_append, hx1, hl, Nat.add_mul]
  have hd : w.drew.heap = w.heap := rfl
  refine ⟨⟨some ⟨w.heap.size, 0, none⟩, len + m, grownCap w (len + m) len e⟩, w.drew.alloc (.cells (xs.toArray ++ news.toArray ++ Builtin.zeroCells z.cells (grownCap w (len + m) len e - (len + m))) e), ?_, ⟨hlenr, .inr ⟨_, _, rfl, Blk.new w.drew _ e, grownCap_ge w (len + m) len e, ?_, ?_⟩⟩, rfl, ((Ext.refl _ w).drew).alloc _, fun j hj => ?_⟩
  · have hc := hcells w.drew hd
    have hf := growslice_fits (need := len + m) (old := len) (by omega) hb
    have hf' : ¬ (281474976710656 < Builtin.nextslicecap (len + m) len * i.bytes) := by omega
    have h6 : ¬ (9223372036854775807 < ((len : Int) + (m : Int))) := by omega
    have hroom : ¬ (len + m ≤ len) := by omega
    have hm0 : m ≠ 0 := by omega
    have hfo := run_firstCells_some (P := P) w.drew i.size len a len len xs hx1 (fun j v hj => by have := holds j v hj; simpa using this)
    simp [RunV, Slc.v, Builtin.append_, run_underlying ht, sizeOf, typeInfo, zeroValue, hi, hz, hlen, hroom, hm0, h6, hf', Question.forced, hfo, hc, newRow, grownCap] <;>
      (congr 2; apply Array.ext'; simp [List.append_assoc])
  · have hge := grownCap_ge w (len + m) len e
    simp only [Array.size_append, List.size_toArray, size_zeroCells, hzs, hx1, hl, ← Nat.add_mul]
    congr 1
    omega
  · simp only [Array.toList_append]
    rw [← hlenr]
    exact List.take_left
  · obtain ⟨a', ha, rfl⟩ := hj
    cases ha
    exact Nat.le_refl _
/-- append(empty, l...): nothing old is written. -/
theorem El.app0 {s2 : Slc} (h : El P t e k B z) (hk : 0 < k) (own : Row w s e k []) (hc : s.cap = 0) (h2 : VRow w s2 k ys) (h1 : ∀ v ∈ ys, v.oneCell' = true) (hb : s2.len * B ≤ 140737488355328) (h63 : s2.len ≤ 9223372036854775807) :
    ∃ s' w', RunV P (Builtin.append_ #[t, t] ty #[Slc.v s, Slc.v s2]) w (Slc.v s') w' ∧ Row w' s' e k ys ∧ s'.len = s2.len ∧ Ext (fun _ => False) w w' ∧ ∀ j, s'.own j → s.own j ∨ w.heap.size ≤ j := by
  have hl0 : s.len = 0 := by
    have := own.1
    rcases Nat.mul_eq_zero.1 this.symm with h0 | h0
    · exact h0
    · omega
  obtain ⟨p, len, cap⟩ := s
  simp only at hc hl0
  subst hc hl0
  cases p with
  | none =>
    obtain ⟨s', w', r1, r2, r3, r4, r5⟩ := h.app (ty := ty) (xs := []) own h2 h1 (by simpa using hb) (by simpa using h63)
    exact ⟨s', w', r1, by simpa using r2, by simpa using r3, r4.mono (fun j _ hj => by obtain ⟨a, ha, _⟩ := hj; cases ha), r5⟩
  | some a =>
    obtain ⟨i, hi, rfl, rfl, hz⟩ := h.info
    have hcells : ∀ w' : World, w'.heap = w.heap → (Builtin.firstCells i.size s2.len (Slc.v s2)).run P w' = .ok ys.toArray w' := fun w' hw' => by
      obtain ⟨p, len, cap⟩ := s2
      cases p with
      | none =>
        have hy : ys = [] := by
          cases ys with
          | nil => rfl
          | cons y r =>
            obtain ⟨a, ha, _⟩ := h2.2 0 y rfl
            cases ha
        subst hy
        have hl := h2.1
        simp only [List.length_nil] at hl
        exact run_firstCells_none (P := P) (w := w') _ _ _ _
      | some a =>
        refine run_firstCells_some w' i.size len a len cap ys h2.1 fun j v hj => ?_
        obtain ⟨a', ha, hc⟩ := h2.2 j v hj
        cases ha
        unfold World.cell? at hc ⊢
        rw [hw']
        exact hc
    by_cases hm : s2.len = 0
    · have hy : ys = [] := List.eq_nil_of_length_eq_zero (by have := h2.1; rw [hm] at this; simpa using this)
      subst hy
      refine ⟨⟨some a, 0, 0⟩, w, ?_, own, hm.symm, Ext.refl _ _, fun j hj => .inl hj⟩
      have hc := hcells w rfl
      have hlen : Builtin.lenOf (Slc.v s2) = pure 0 := by rw [← hm]; rfl
      rw [hm] at hc
      simp [RunV, Builtin.append_, run_underlying h.und, sizeOf, typeInfo, hi, hlen, hc, Slc.v] at *
      simp [RunV, Builtin.append_, run_underlying h.und, sizeOf, typeInfo, hi, hlen, hc, Slc.v, storeCells]
    · obtain ⟨s', w', r1, r2, r3, r4, r5⟩ := append_fullB (ty := ty) (a := a) (len := 0) (xs := []) (x := Slc.v s2) (m := s2.len) h.und hi hz h.cells (by omega) rfl hcells h2.1 (by simp) (fun j v hj => by cases hj) (by simpa using hb) (by simpa using h63)
      exact ⟨s', w', r1, by simpa using r2, by simpa using r3, r4, fun j hj => .inr (r5 j hj)⟩
end
end Sh
end Go.Proofs.YtjkoafjnmkchdaaGreatDoor

/- Deflate: what parts give, or why not; both sides. Conditions: sizes. -/
namespace Go.Proofs.YtjkoafjnmkchdaaGreatDoor
namespace Inf
open Sh Bit
set_option linter.unusedVariables false
set_option linter.unusedSimpArgs false
set_option maxRecDepth 4000
set_option maxHeartbeats 1000000
attribute [local irreducible] Ld St Nw Nn Lt LdS
/-- A part as it lies in memory: a byte, a size, how far back. -/
abbrev Qr := Int × Int × Int
def prow (q : Qr) : List Value := [.int .u8 q.1, .int .i64 q.2.1, .int .i64 q.2.2]
theorem elP : El Tryz.prog 63 91 3 24 (.agg (prow (0, 0, 0)).toArray) := ⟨by kernel_rfl, by kernel_rfl, by kernel_rfl, by kernel_rfl, rfl⟩
theorem p_len (L : List Qr) : (L.flatMap prow).length = L.length * 3 := by
  induction L with
  | nil => rfl
  | cons o L ih => rw [List.flatMap_cons, List.length_append, ih, List.length_cons]; simp [prow]; omega
theorem p_get {L : List Qr} {i j : Nat} {o : Qr} (hi : L[i]? = some o) (hj : j < 3) : (L.flatMap prow)[i * 3 + j]? = (prow o)[j]? := by
  induction L generalizing i with
  | nil => cases hi
  | cons p L ih =>
    rw [List.flatMap_cons]
    cases i with
    | zero =>
      cases hi
      rw [Nat.zero_mul, Nat.zero_add, List.getElem?_append_left (by simp [prow]; omega)]
    | succ i =>
      rw [List.getElem?_append_right (by simp [prow]; omega), ← ih (by simpa using hi)]
      congr 1
      simp only [prow, List.length_cons, List.length_nil]
      omega
theorem p_one (L : List Qr) : ∀ v ∈ L.flatMap prow, v.oneCell' = true := by
  intro v hv
  obtain ⟨q, _, hq⟩ := List.mem_flatMap.1 hv
  unfold prow at hq
  rcases List.mem_cons.1 hq with rfl | hq
  · rfl
  rcases List.mem_cons.1 hq with rfl | hq
  · rfl
  rcases List.mem_cons.1 hq with rfl | hq
  · rfl
  · cases hq
/-- The parts of a slice. -/
def PV (w : World) (s : Slc) (L : List Qr) : Prop := s.len = L.length ∧ VRow w s 3 (L.flatMap prow)
theorem PV.keep {w w' : World} {s : Slc} {L : List Qr} (h : PV w s L) (he : Ext (fun _ => False) w w') : PV w' s L := ⟨h.1, h.2.keep he⟩
theorem PV.get {w : World} {s : Slc} {L : List Qr} (h : PV w s L) {i : Nat} {o : Qr} (hi : L[i]? = some o) : ∃ a, s.p = some a ∧ w.cell? (a.add (i * 3)) = some (.int .u8 o.1) ∧ w.cell? ((a.add (i * 3)).add 1) = some (.int .i64 o.2.1) ∧ w.cell? ((a.add (i * 3)).add 2) = some (.int .i64 o.2.2) := by
  have g : ∀ j v, j < 3 → (prow o)[j]? = some v → ∃ a, s.p = some a ∧ w.cell? ((a.add (i * 3)).add j) = some v := fun j v hj hv => by
    obtain ⟨a, ha, hc⟩ := h.2.2 (i * 3 + j) v (by rw [p_get hi hj]; exact hv)
    exact ⟨a, ha, by rw [add_add']; exact hc⟩
  obtain ⟨a, ha, c0⟩ := g 0 _ (by omega) rfl
  obtain ⟨a1, ha1, c1⟩ := g 1 _ (by omega) rfl
  obtain ⟨a2, ha2, c2⟩ := g 2 _ (by omega) rfl
  rw [ha] at ha1 ha2
  cases ha1; cases ha2
  exact ⟨a, ha, by rw [add_add'] at c0; exact c0, c1, c2⟩
def okQ (q : Qr) : Prop := (q.2.1 = 0 ∧ q.2.2 = 0) ∨ (q.1 = 0 ∧ 3 ≤ q.2.1 ∧ q.2.1 ≤ 258 ∧ 1 ≤ q.2.2 ∧ q.2.2 ≤ 32768)
instance (q : Qr) : Decidable (okQ q) := by unfold okQ; infer_instance
def toP (q : Qr) : Prt := ⟨UInt8.ofNat q.1.toNat, q.2.1.toNat, q.2.2.toNat⟩
/-- What parts give, or the first error. -/
def unQ : List Qr → List UInt8 → Except Int (List UInt8)
  | [], out => .ok out
  | q :: r, out => if ¬ okQ q then .error 1 else if (out.length : Int) < q.2.2 then .error 14 else if 1048576 < (out.length : Int) + max q.2.1 1 then .error 5 else unQ r (addP out (toP q))
def unR (L : List Qr) : ByteArray × Int := match unQ L [] with
  | .ok o => (⟨o.toArray⟩, 0)
  | .error e => (⟨#[]⟩, e)
def rawP (p : Prt) : Qr := ((p.b.toNat : Int), (p.n : Int), (p.f : Int))
theorem toP_raw (p : Prt) : toP (rawP p) = p := by
  unfold toP rawP
  simp
theorem unQ_fit : ∀ (l : List Prt) (out : List UInt8), Fit l out → (l.foldl addP out).length ≤ 1048576 → unQ (l.map rawP) out = .ok (l.foldl addP out)
  | [], out, _, _ => rfl
  | p :: r, out, ⟨h1, h2, h3⟩, hl => by
    rw [List.map_cons]
    unfold unQ
    rw [List.foldl_cons] at hl ⊢
    have := foldl_len r (addP out p)
    rw [addP_len] at this
    have ok : okQ (rawP p) := by
      unfold okQ rawP
      rcases h1 with ⟨a, b⟩ | ⟨a, b, c, d, e⟩
      · exact .inl ⟨by simp [a], by simp [b]⟩
      · exact .inr ⟨by simp [a], by show 3 ≤ (p.n : Int); omega, by show (p.n : Int) ≤ 258; omega, by show 1 ≤ (p.f : Int); omega, by show (p.f : Int) ≤ 32768; omega⟩
    rw [if_neg (fun h => h ok), toP_raw, if_neg (by show ¬ (out.length : Int) < (p.f : Int); omega), if_neg (by show ¬ 1048576 < (out.length : Int) + max (p.n : Int) 1; omega)]
    exact unQ_fit r (addP out p) h3 hl
theorem Hn.base {w0 w1 w : World} {L : List (Nat × List Value × TypeId)} (h : Hn w1 w L) (he : Ext (fun _ => False) w0 w1) : Hn w0 w L :=
  ⟨⟨h.h.blk, h.h.nodup, he.tr h.ext⟩, fun p hp => Nat.le_trans he.size (h.new p hp)⟩
section
variable {w vw : World} {B : Nat} {cs : List Value} {t : TypeId} {sl : Slc} {out : List UInt8}
/-- A byte is appended. -/
theorem push1 (H : Hn w vw [(B, cs, t)]) (hr : BRow vw sl out) (ho : ∀ j, sl.own j → w.heap.size ≤ j ∧ j ≠ B) (hl : out.length ≤ 2000000) (b : UInt8) {x : Int} (hx : x = (b.toNat : Int)) {K : Slc → World → Prop}
    (k : ∀ s' w', Hn w w' [(B, cs, t)] → BRow w' s' (out ++ [b]) → (∀ j, s'.own j → w.heap.size ≤ j ∧ j ≠ B) → K s' w') :
    Nw vw (.cells #[.int .u8 x] 5) fun vw46 => Rn Tryz.prog (Builtin.append_ #[29, 29] 29 #[Slc.v sl, Slc.v ((⟨some ⟨vw.heap.size, 0, none⟩, 1, 1⟩ : Slc))]) vw46 Slc.v K := by
  subst hx
  refine Nw.of ?_
  have e1 := (Ext.refl (fun _ => False) vw).alloc (.cells #[.int .u8 (b.toNat : Int)] 5)
  obtain ⟨s', w', hrun, hrow, hext, hown⟩ := app_one (ty := 29) (b := b) (hr.keep e1 (fun _ _ h => h)) (Blk.new vw _ _) (by omega)
  refine ⟨s', w', hrun, k s' w' ((H.keep e1).other hext fun j hj => ⟨(ho j hj).1, by simpa using (ho j hj).2⟩) hrow fun j hj => ?_⟩
  rcases hown j hj with e | e
  · exact ho j e
  · have h1 := H.lt 0 rfl
    have h2 := e1.size
    have h3 := H.size
    exact ⟨by omega, by omega⟩
theorem copy_succ (out : List UInt8) (f j : Nat) : copy out f (j + 1) = copy out f j ++ [(copy out f j).getD (out.length + j - f) 0] := by
  show copy out f j ++ [(copy out f j).getD ((copy out f j).length - f) 0] = _
  rw [copy_len]
variable {s2 : Slc × Int} {vw3 : World} {I4 : (Slc × Int) → World → Prop} {b : Int} {n f : Nat}
end
/-- The loop over the parts. -/
def UInv (w : World) (L : List Qr) (m : Nat) (st : Slc × Int) (w3 : World) : Prop :=
  ∃ (i : Nat) (out : List UInt8), st.2 = (i : Int) ∧ i ≤ L.length ∧ m = L.length - i ∧ BRow w3 st.1 out ∧ out.length ≤ 1048576 ∧ unQ (L.drop i) out = unQ L [] ∧ Ext (fun _ => False) w w3 ∧ ∀ j, st.1.own j → w.heap.size ≤ j
theorem unq_er {L : List Qr} {e : Int} (h : .error e = unQ L []) : ((⟨#[]⟩ : ByteArray), e) = unR L := by
  unfold unR; rw [← h]
theorem max1 (x : Int) : (if 1 > x then 1 else x) = max x 1 := by split <;> omega
theorem unQ_cons (q : Qr) (r : List Qr) (out : List UInt8) : unQ (q :: r) out = if ¬ okQ q then .error 1 else if (out.length : Int) < q.2.2 then .error 14 else if 1048576 < (out.length : Int) + max q.2.1 1 then .error 5 else unQ r (addP out (toP q)) := rfl
theorem drop_at {L : List Qr} {i : Nat} (h : i < L.length) : ∃ o, L[i]? = some o ∧ o ∈ L ∧ L.drop i = o :: L.drop (i + 1) :=
  ⟨L[i], List.getElem?_eq_getElem h, List.getElem_mem h, List.drop_eq_getElem_cons h⟩
theorem UInv.next {w w3 : World} {L : List Qr} {i : Nat} {o : Qr} {out : List UInt8} {sl : Slc} {B : Nat} {t : TypeId} {cs : List Value} (hi : i < L.length) (hL : L.length ≤ 4611686018427387904) (hr : BRow w3 sl (addP out (toP o))) (hl : (out.length : Int) + max o.2.1 1 ≤ 1048576)
    (hun : unQ (L.drop (i + 1)) (addP out (toP o)) = unQ L []) (H : Hn w w3 [(B, cs, t)]) (ho : ∀ j, sl.own j → w.heap.size ≤ j ∧ j ≠ B) : ∃ m, m < L.length - i ∧ UInv w L m (sl, IntKind.i64.wrap ((i : Int) + 1)) w3 := by
  refine ⟨L.length - (i + 1), by omega, i + 1, _, by rw [i64_id (by omega)]; rfl, by omega, rfl, hr, ?_, hun, H.ext, fun j hj => (ho j hj).1⟩
  rw [addP_len]
  have : ((toP o).n : Int) = o.2.1.toNat := rfl
  omega
end Inf
end Go.Proofs.YtjkoafjnmkchdaaGreatDoor

/- What the writers of package bit and of its reference do, call by call. Conditions: the writer is not nil, it holds at most 2^39 bytes. -/
namespace Go.Proofs.YtjkoafjnmkchdaaGreatDoor
namespace Bit
open Sh
set_option linter.unusedVariables false

/-- The blocks of a writer. -/
def fp (b : Nat) (s : Slc) : Nat → Prop := fun j => j = b ∨ s.own j
/-- What a call may have done to the blocks of a writer. -/
structure Wn (w w' : World) (b : Nat) (s s' : Slc) : Prop where
  ext : Ext (fp b s) w w'
  new : ∀ j, s'.own j → s.own j ∨ w.heap.size ≤ j
theorem Wn.refl (w : World) (b : Nat) (s : Slc) : Wn w w b s s := ⟨Ext.refl _ _, fun _ h => .inl h⟩
theorem Wn.trans {w w1 w2 : World} {b : Nat} {s s1 s2 : Slc} (h : Wn w w1 b s s1) (k : Wn w1 w2 b s1 s2) : Wn w w2 b s s2 :=
  ⟨h.ext.trans k.ext (fun _ h => h) fun i hi hg => hg.elim .inl fun hg => (h.new i hg).elim .inr fun h2 => by omega,
    fun j hj => (k.new j hj).elim (h.new j) fun h2 => .inr (Nat.le_trans h.ext.size h2)⟩
theorem Wn.to {w w1 w2 : World} {b : Nat} {s s1 : Slc} (h : Wn w w1 b s s1) (k : Ext (· = b) w1 w2) : Wn w w2 b s s1 :=
  ⟨h.ext.trans k (fun _ h => h) fun i hi hg => .inl hg, h.new⟩
theorem Wn.to' {w w1 w2 : World} {b : Nat} {s s1 : Slc} (h : Wn w w1 b s s1) (k : Ext (fun _ => False) w1 w2) : Wn w w2 b s s1 :=
  ⟨h.ext.trans k (fun _ h => h) fun i hi hg => hg.elim, h.new⟩

/-- A writer of package bit: its bytes, how many bits of the last are used, the order. -/
structure WrB (w : World) (b : Nat) (s : Slc) (way : Int) (st : List UInt8 × Nat) : Prop where
  blk : Blk w b #[.int .i64 way, .int .i64 ((st.2 : Nat) : Int), Slc.v s] 127
  row : BRow w s st.1
  own : ¬ s.own b
abbrev at1 (b : Nat) : Option Addr := some ⟨b, 0, none⟩

section
variable {w w2 : World} {b : Nat} {s : Slc} {way : Int} {st : List UInt8 × Nat}
theorem WrB.keep {G : Nat → Prop} (h : WrB w b s way st) (he : Ext G w w2) (hn : ∀ j, fp b s j → ¬ G j) : WrB w2 b s way st :=
  ⟨he.blk h.blk (hn b (.inl rfl)), h.row.keep he fun j hj => hn j (.inr hj), h.own⟩
theorem WrB.lt (h : WrB w b s way st) : ∀ j, fp b s j → j < w.heap.size := fun j hj => hj.elim (fun e => e ▸ h.blk.lt) h.row.own_lt
theorem p_place {cs : Array Value} {t : TypeId} {u : Nat} (h : Blk w b cs t) (hu : cs[1]? = some (.int .i64 ((u : Nat) : Int))) (hlt : u < 8) (w' : Int) :
    C121 (at1 b) w' w fun x w1 => x = ((pl w' u : Nat) : Int) ∧ w1 = w := by
  refine T121 _ _ _ _ ?_
  unfold S121
  unfold pl
  by_cases hw : w' = 1
  · simp only [hw, beq_self_eq_true, Br_true]
    exact Nn.of (Ld.of h hu ⟨rfl, trivial⟩)
  · simp only [hw, if_false, beq_eq_false_iff_ne.2 hw, Br_false]
    exact Nn.of (Ld.of h hu ⟨by rw [i64_id (by omega)]; omega, trivial⟩)
theorem p_other {cs : Array Value} {t : TypeId} (h : Blk w b cs t) (hu : cs[0]? = some (.int .i64 way)) (w' : Int) :
    C108 (at1 b) w' w fun x w1 => x = (way != 0 && way != w') ∧ w1 = w := by
  refine T108 _ _ _ _ ?_
  unfold S108
  refine Nn.of (Ld.of h hu (Br_of (fun e => ?_) fun e => ?_))
  · exact Nn.of (Ld.of h hu ⟨by simp [e], rfl⟩)
  · exact ⟨by simp [e], rfl⟩

theorem c_new (w : World) : C52 w fun r w1 => r = at1 w.heap.size ∧ WrB w1 w.heap.size ⟨none, 0, 0⟩ 0 ([], 0) ∧ Ext (fun _ => False) w w1 := by
  refine T52 _ _ ?_
  unfold S52
  refine (Hx.start w (fun _ => False)).nw fun w2 H => ⟨rfl, ⟨H.get 0 rfl, BRow.nil _, ?_⟩, H.ext⟩
  rintro ⟨a, ha, _⟩
  cases ha

theorem last_get {l : List UInt8} (h : l ≠ []) : ∃ x, l[l.length - 1]? = some x ∧ x.toNat = lastN l := by
  have : 0 < l.length := List.length_pos_iff.2 h
  refine ⟨l[l.length - 1], List.getElem?_eq_getElem (by omega), ?_⟩
  unfold lastN
  simp [List.getD, List.getElem?_eq_getElem (show l.length - 1 < l.length by omega)]
theorem newByte {way : Int} (h : WOK way st) {x : Nat} (hx : x ≤ 1) :
    ior .u8 ((lastN (grow st) : Nat) : Int) (IntKind.u8.wrap (IntKind.i64.wrap ((x : Int) * 2 ^ min (((pl way st.2 : Nat) : Int)).toNat 64))) =
      (((UInt8.ofNat (lastN (grow st) + x * 2 ^ pl way st.2)).toNat : Nat) : Int) := by
  obtain ⟨h1, h2, h3⟩ := place_new h hx
  have hlt := h.lt
  have hp : pl way st.2 ≤ 7 := by unfold pl; split <;> omega
  have e : ((x : Int) * 2 ^ min (((pl way st.2 : Nat) : Int)).toNat 64) = ((x * 2 ^ pl way st.2 : Nat) : Int) := by
    rw [Int.toNat_natCast, Nat.min_eq_left (by omega)]
    simp
  rw [e, i64_id (by omega), u8_id (by omega), ior_u8_nat (lastN_lt _) h3, h2, UInt8.toNat_ofNat_of_lt' h1]

theorem c_wone (h : WrB w b s way st) {w' : Int} (hok : WOK w' st) (hsz : st.1.length ≤ 549755813888) {x : Nat} (hx : x ≤ 1) :
    C109 (at1 b) (x : Int) w' w fun w1 => ∃ s', WrB w1 b s' way (oneS w' st x) ∧ Wn w w1 b s s' := by
  refine T109 _ _ _ _ _ ?_
  unfold S109
  obtain ⟨hb, hr, ho⟩ := h
  have hlt := hok.lt
  have H0 : Hx w (fp b s) w _ := Hx.one hb
  refine Nn.of (H0.ld 0 rfl rfl (Br_of (fun e => ?a) fun e => ?b))
  case' a =>
    have e0 : st.2 = 0 := by simpa using e
    refine Nn.of (H0.ld 0 rfl rfl (H0.nw' fun w2 H he => ?_))
    have hr1 := hr.keep he fun _ _ h => h
    obtain ⟨s1, w3, hrun, hrow, hext, hnew⟩ := app_one (ty := 29) (b := 0) hr1 (H.get 1 rfl) (by omega)
    refine ⟨s1, w3, hrun, Nn.of ?_⟩
    have hsub : ∀ j, s.own j → j ∉ [b, w.heap.size] := fun j hj hm => by
      rcases List.mem_cons.1 hm with h | h
      · exact ho (h ▸ hj)
      · have := hr.own_lt hj
        have : j = w.heap.size := by simpa using h
        omega
    have H := H.other hext (fun j hj => hsub j hj) fun j hj => .inl (.inr hj)
    have hf1 : ∀ j, s1.own j → s.own j ∨ w.heap.size ≤ j := fun j hj => (hnew j hj).imp id fun h => Nat.le_trans he.size h
    have ho1 : ¬ s1.own b := fun hj => (hf1 b hj).elim ho fun h => by have := hb.lt; omega
    refine H.st' 0 rfl (by simp) (.inl (.inl rfl)) fun w4 H he4 => ?_
    have hrow := hrow.keep he4 fun j hj e => ho1 (by have e : j = b := e; rw [← e]; exact hj)
    have H := H.only 0 rfl
    have hg : st.1 ++ [0] = grow st := by unfold grow; rw [if_pos e0]
    rw [hg] at hrow
  case' b =>
    have e0 : ¬ st.2 = 0 := by
      have : ¬ ((st.2 : Nat) : Int) = 0 := by simpa using e
      omega
    have hrow : BRow w s (grow st) := by unfold grow; rw [if_neg e0]; exact hr
    have H := H0
    have hf1 : ∀ j, s.own j → s.own j ∨ w.heap.size ≤ j := fun j hj => .inl hj
    have ho1 := ho
  all_goals
    have HD := H.drew
    have hrow := hrow.keep (Ext.refl (fun _ => False) _).drew fun _ _ h => h
    have hlen := hrow.len
    have hgn := grow_ne hok
    have hpos : 0 < (grow st).length := List.length_pos_iff.2 hgn
    have hgl := grow_len st
    obtain ⟨y, hy, hyN⟩ := last_get hgn
    obtain ⟨g, hp, hc⟩ := hrow.get hy
    obtain ⟨g', hp', hcan, hset, he5⟩ := hrow.set (show (grow st).length - 1 < (grow st).length by omega) (UInt8.ofNat (lastN (grow st) + x * 2 ^ pl w' st.2))
    have : g' = g := by rw [hp] at hp'; cases hp'; rfl
    subst this
    refine ⟨fun w3 => w3 = _, rfl, Nn.of (LdS.of (fun w3 e => e ▸ HD.get 0 rfl) rfl (Nn.of (LdS.of (fun w3 e => e ▸ HD.get 0 rfl) rfl ?_)))⟩
    rw [hlen, i64_id (by omega), show ((((grow st).length : Nat) : Int) - 1).toNat * 1 = (grow st).length - 1 by omega, hp]
    refine ⟨by omega, by omega, Nn.of ⟨((lastN (grow st) : Nat) : Int), fun w3 e => by rw [e, add_lit, Nat.zero_add, hc, hyN], Nn.of ((p_place (HD.get 0 rfl) rfl hlt w').mono ?_)⟩⟩
    rintro r w3 ⟨rfl, rfl⟩
    refine ⟨rfl, by omega, by omega, by omega, Nn.of ⟨by rw [add_lit, Nat.zero_add]; exact hcan, Nn.of ?_⟩⟩
    rw [add_lit, Nat.zero_add, newByte hok hx]
    have hgne : g' ≠ b := fun e => ho1 ⟨_, hp, e⟩
    have hgb : ∀ j, j = g' → j ∉ [b] := fun j hj hm => hgne (by rw [← hj]; simpa using hm)
    have H5 := HD.other he5 hgb fun j hj => by rw [hj]; exact (hf1 g' ⟨_, hp, rfl⟩).imp .inr id
    refine H5.ld 0 rfl rfl (Nn.of (H5.st' 0 rfl (by simp) (.inl (.inl rfl)) fun w6 H6 he6 => ?_))
    refine ⟨_, ⟨?_, hset.keep he6 fun j hj e => ho1 (by have e : j = b := e; rw [← e]; exact hj), ho1⟩, H6.ext, hf1⟩
    have := H6.get 0 rfl
    rw [i64_id (by omega), tmod_id (by omega)] at this
    exact this

theorem c_put (h : WrB w b s way st) (hi : WInv way st) (hsz : st.1.length ≤ 274877906944) (v n : Int) {w' : Int} (hw' : w' = 1 ∨ w' = 2) :
    C85 (at1 b) v n w' w fun e w1 => e = (putR way st v n w').1 ∧ ∃ s', WrB w1 b s' (putR way st v n w').2.2 (putR way st v n w').2.1 ∧ Wn w w1 b s s' := by
  refine T85 _ _ _ _ _ _ ?_
  unfold S85
  have no : (n < 0 ∨ 24 < n ∨ v < 0 ∨ 2 ^ n.toNat ≤ v ∨ (way ≠ 0 ∧ way ≠ w')) → (1 : Int) = (putR way st v n w').1 ∧ ∃ s', WrB w b s' (putR way st v n w').2.2 (putR way st v n w').2.1 ∧ Wn w w b s s' := fun hc => by
    rw [putR_arg hc]; exact ⟨rfl, s, h, Wn.refl _ _ _⟩
  refine Br_of (fun e => ?_) fun _ => Br_of (fun e => ?_) fun e1 => Br_of (fun e => ?_) fun e2 => Br_of (fun e => ?_) fun e3 => ⟨by simpa using e1, Br_of (fun e => ?_) fun e4 => ?_⟩
  · cases e
  · exact no (.inl (by simpa using e))
  · exact no (.inr (.inl (by simpa using e)))
  · exact no (.inr (.inr (.inl (by simpa using e))))
  all_goals
    have h0 : ¬ n < 0 := by simpa using e1
    have h24 : n ≤ 24 := by simpa using e2
    have hv0 : ¬ v < 0 := by simpa using e3
    obtain ⟨m, rfl⟩ := Int.eq_ofNat_of_zero_le (show 0 ≤ n by omega)
    obtain ⟨u, rfl⟩ := Int.eq_ofNat_of_zero_le (show 0 ≤ v by omega)
    have hp24 := two_pow_24 (show m ≤ 24 by omega)
    have hpp := two_pow_pos m
    have hwr : IntKind.i64.wrap (1 * 2 ^ min ((m : Int)).toNat 64) = 2 ^ m := by
      rw [Int.toNat_natCast, Nat.min_eq_left (by omega), Int.one_mul, i64_id (by omega)]
  · have e : (2 : Int) ^ m ≤ (u : Int) := by rw [hwr] at e; simpa using e
    exact no (.inr (.inr (.inr (.inl (by rw [Int.toNat_natCast]; exact e)))))
  have hlt : (u : Int) < 2 ^ m := by rw [hwr] at e4; simpa using e4
  refine Nn.of ((p_other h.blk rfl w').mono ?_)
  rintro x w1 ⟨rfl, rfl⟩
  refine Br_of (fun e => ?_) fun e5 => ?_
  · exact no (.inr (.inr (.inr (.inr (by simpa using e)))))
  have hno : ¬ (way ≠ 0 ∧ way ≠ w') := by simpa using e5
  have hall : ¬ ((m : Int) < 0 ∨ 24 < (m : Int) ∨ (u : Int) < 0 ∨ 2 ^ ((m : Int)).toNat ≤ (u : Int) ∨ (way ≠ 0 ∧ way ≠ w')) := by
    rw [Int.toNat_natCast]; omega
  have hok := hi.to hno
  rw [putR_ok hall, Int.toNat_natCast, Int.toNat_natCast]
  have hu24 : u < 16777216 := by omega
  refine ⟨fun k i w3 => ∃ j : Nat, j ≤ m ∧ k = m - j ∧ i = (j : Int) ∧ ∃ s', WrB w3 b s' way (putS w' u m st j) ∧ Wn w1 w3 b s s', m, ⟨0, by omega, by omega, rfl, s, h, Wn.refl _ _ _⟩, ?_⟩
  rintro k i w3 ⟨j, hj, rfl, rfl, s', hb, hn⟩
  unfold S85L1
  have hokj := hok.put u m j
  have hlen := putS_len w' u m st j
  refine Br_of (fun e => ?_) fun e => ?_
  · have hjm : j < m := by simpa using e
    have key : ∀ x : Int, x = ((vbit w' u m j : Nat) : Int) → C109 (at1 b) x w' w3 fun w4 => ∃ n', n' < m - j ∧ ∃ j' : Nat, j' ≤ m ∧ n' = m - j' ∧ IntKind.i64.wrap ((j : Int) + 1) = (j' : Int) ∧ ∃ s', WrB w4 b s' way (putS w' u m st j') ∧ Wn w1 w4 b s s' := fun x hx => by
      rw [hx]
      refine (c_wone hb hokj (by omega) (vbit_le _ _ _ _)).mono ?_
      rintro w4 ⟨s2, hb2, hn2⟩
      exact ⟨m - (j + 1), by omega, j + 1, by omega, rfl, by rw [i64_id (by omega)]; rfl, s2, hb2, hn.trans hn2⟩
    rcases hw' with rfl | rfl
    · simp only [show ((1 : Int) == 2) = false by rfl, Br_false]
      refine ⟨by omega, key _ ?_⟩
      rw [Int.toNat_natCast, Nat.min_eq_left (by omega), vbit_low u j hu24]
      simp [vbit]
    · simp only [beq_self_eq_true, Br_true]
      rw [i64_id (n := (m : Int) - 1) (by omega), i64_id (by omega)]
      refine ⟨by omega, key _ ?_⟩
      rw [show ((m : Int) - 1 - (j : Int)).toNat = m - 1 - j by omega, Nat.min_eq_left (by omega), vbit_low u _ hu24]
      simp [vbit]
  · have hge : j = m := by
      have : ¬ (j : Int) < m := by simpa using e
      omega
    subst hge
    refine Br_of (fun e => ?_) fun e => ?_
    · have hpos : (0 : Int) < j := by simpa using e
      rw [if_pos hpos]
      refine Nn.of ((Hx.one (F := (· = b)) hb.blk).st' 0 rfl (by simp) (.inl rfl) fun w5 H he => ⟨rfl, s', ⟨H.get 0 rfl, hb.row.keep he fun i hi e => hb.own (by have e : i = b := e; rw [← e]; exact hi), hb.own⟩, hn.to he⟩)
    · have hz : ¬ (0 : Int) < j := by simpa using e
      rw [if_neg hz]
      exact ⟨rfl, s', hb, hn⟩
theorem c_wlow (h : WrB w b s way st) (hi : WInv way st) (hsz : st.1.length ≤ 274877906944) (v n : Int) :
    C53 (at1 b) v n w fun e w1 => e = (putR way st v n 1).1 ∧ ∃ s', WrB w1 b s' (putR way st v n 1).2.2 (putR way st v n 1).2.1 ∧ Wn w w1 b s s' :=
  T53 _ _ _ _ _ (c_put h hi hsz v n (.inl rfl))
theorem c_walign (h : WrB w b s way st) : C54 (at1 b) w fun w1 => WrB w1 b s 0 (st.1, 0) ∧ Ext (· = b) w w1 := by
  refine T54 _ _ _ ?_
  unfold S54
  refine Br_of (fun _ => ?_) fun e => by cases e
  refine Nn.of ((Hx.one (F := (· = b)) h.blk).st 0 rfl (by simp) (.inl rfl) fun w2 H => H.st 0 rfl (by simp) (.inl rfl) fun w3 H => ?_)
  exact ⟨⟨H.get 0 rfl, h.row.keep H.ext fun i hi e => h.own (by have e : i = b := e; rw [← e]; exact hi), h.own⟩, H.ext⟩
theorem c_wraw (h : WrB w b s way st) (t : ByteArray) (hsz : st.1.length ≤ 274877906944) (ht : t.size ≤ 274877906944) :
    C55 (at1 b) t w fun w1 => ∃ s', WrB w1 b s' (rawWay way st) (rawS st t) ∧ Wn w w1 b s s' := by
  refine T55 _ _ _ _ ?_
  unfold S55
  have fin : ∀ (w2 : World) (way' : Int), WrB w2 b s way' (st.1, 0) → Ext (· = b) w w2 → ∃ x w3, RunV Tryz.prog (Builtin.append_ #[29, 9] 29 #[Slc.v s, .string t]) w2 (Slc.v x) w3 ∧
      Nn (at1 b) fun a => St w3 (a.add 2) (Slc.v x) fun w4 => ∃ s', WrB w4 b s' way' (rawS st t) ∧ Wn w w4 b s s' := fun w2 way' h2 he => by
    obtain ⟨s1, w3, hrun, hrow, hext, hnew⟩ := app_str (ty := 29) h2.row t (by show st.1.length + _ ≤ _; omega)
    have ho1 : ¬ s1.own b := fun hj => (hnew b hj).elim h2.own fun hh => by have := h2.blk.lt; omega
    have hoth : ∀ j, s.own j → j ∉ [b] := fun j hj hm => h2.own ((show j = b by simpa using hm) ▸ hj)
    have H := (Hx.one (F := fp b s) h2.blk).other hext hoth fun j hj => .inl (.inr hj)
    refine ⟨s1, w3, hrun, Nn.of (H.st' 0 rfl (by simp) (.inl (.inl rfl)) fun w4 H he4 => ⟨s1, ⟨H.get 0 rfl, hrow.keep he4 fun j hj e => ho1 (by have e : j = b := e; rw [← e]; exact hj), ho1⟩, ?_, ?_⟩)⟩
    · exact he.trans H.ext (fun _ h => .inl h) fun _ _ h => h
    · exact fun j hj => (hnew j hj).imp id fun hh => Nat.le_trans he.size hh
  refine Br_of (fun e => ?_) fun _ => Nn.of ((Hx.one (F := (· = b)) h.blk).ld 0 rfl rfl (Br_of (fun e => ?_) fun e => ?_))
  · cases e
  · have e : (0 : Int) < ((st.2 : Nat) : Int) := by simpa using e
    have e : ¬ st.2 = 0 := by omega
    refine (c_walign h).mono ?_
    rintro w2 ⟨h2, he⟩
    unfold rawWay
    rw [if_neg e]
    exact Nn.of (Ld.of h2.blk rfl (fin w2 0 h2 he))
  · have e : ¬ (0 : Int) < ((st.2 : Nat) : Int) := by simpa using e
    have e : st.2 = 0 := by omega
    unfold rawWay
    rw [if_pos e]
    refine Nn.of (Ld.of h.blk rfl (fin w way ?_ (Ext.refl _ _)))
    obtain ⟨l, u⟩ := st
    simp only at e
    subst e
    exact h
theorem c_clone {l : List UInt8} (h : BRow w s l) (hsz : l.length ≤ 549755813888) : C86 s w fun s' w1 => BRow w1 s' l ∧ Ext (fun _ => False) w w1 := by
  refine T86 _ _ _ ?_
  unfold S86
  refine Br_of (fun e => ?_) fun e => (Hx.start w (fun _ => False)).nw' fun w2 H he => ?_
  · have : l = [] := by
      rcases h.2 with rfl | ⟨g, cur, hp, _⟩
      · exact List.eq_nil_of_length_eq_zero (by have := h.len; simpa using this.symm)
      · rw [hp] at e; cases e
    rw [this]
    exact ⟨BRow.nil _, Ext.refl _ _⟩
  · have hr : BRow w2 ⟨some ⟨w.heap.size, 0, none⟩, 0, 0⟩ [] := ⟨rfl, .inr ⟨_, #[], rfl, H.get 0 rfl, Nat.le_refl _, rfl, rfl⟩⟩
    obtain ⟨s1, w3, hrun, hrow, hext, hnew⟩ := app_row (ty := 29) hr (h.keep he fun _ _ h => h) (by simp; omega)
    refine ⟨s1, w3, hrun, hrow, he.trans hext (fun _ h => h) fun i hi ⟨a, ha, hb⟩ => ?_⟩
    cases ha
    have : w.heap.size = i := hb
    omega
theorem c_wtext (h : WrB w b s way st) (hsz : st.1.length ≤ 549755813888) : C56 (at1 b) w fun x w1 => x = ⟨st.1.toArray⟩ ∧ Ext (fun _ => False) w w1 := by
  refine T56 _ _ _ ?_
  unfold S56
  refine Br_of (fun e => ?_) fun _ => Nn.of (Ld.of h.blk rfl ((c_clone h.row hsz).mono ?_))
  · cases e
  rintro s' w1 ⟨hr, he⟩
  exact ⟨_, w1, str_row hr, rfl, he⟩
end
end Bit
end Go.Proofs.YtjkoafjnmkchdaaGreatDoor

/- Deflate: stored blocks, both sides. Conditions: sizes. -/
namespace Go.Proofs.YtjkoafjnmkchdaaGreatDoor
namespace Inf
open Sh Bit
set_option linter.unusedVariables false
set_option linter.unusedSimpArgs false
set_option maxRecDepth 4000
set_option maxHeartbeats 1000000
attribute [local irreducible] Ld St Nw Nn Lt LdS
theorem addLast_push (l : List UInt8) (x : UInt8) (v : Nat) : addLast (l ++ [x]) v = l ++ [UInt8.ofNat (x.toNat + v)] := by
  have h : lastN (l ++ [x]) = x.toNat := by unfold lastN; simp
  unfold addLast
  rw [h, List.length_append]
  simp
theorem vbit1 (v n i : Nat) : vbit 1 v n i = v / 2 ^ i % 2 := by unfold vbit; rw [if_pos rfl]
/-- A byte is written, bit by bit. -/
theorem byte_at {v n m : Nat} {st : WS} {l : List UInt8} (h : putS 1 v n st m = (l, 0)) : ∀ i, i < 8 → putS 1 v n st (m + (i + 1)) = (l ++ [UInt8.ofNat (v / 2 ^ m % 2 ^ (i + 1))], (i + 1) % 8)
  | 0, _ => by
    show oneS 1 (putS 1 v n st m) (vbit 1 v n m) = _
    rw [h, vbit1]
    unfold oneS grow pl
    rw [if_pos rfl, if_pos rfl, addLast_push]
    show (l ++ [UInt8.ofNat (0 + v / 2 ^ m % 2 * 1)], 1) = _
    rw [Nat.zero_add, Nat.mul_one]
  | i + 1, hi => by
    show oneS 1 (putS 1 v n st (m + (i + 1))) (vbit 1 v n (m + (i + 1))) = _
    rw [byte_at h i (by omega), vbit1]
    have hmod : (i + 1) % 8 = i + 1 := Nat.mod_eq_of_lt (by omega)
    unfold oneS grow pl
    dsimp only
    rw [hmod, if_neg (by omega), if_pos rfl, addLast_push]
    have hp : 2 ^ (i + 1) ≤ 2 ^ 7 := Nat.pow_le_pow_right (by omega) (by omega)
    have hlt : v / 2 ^ m % 2 ^ (i + 1) < 256 := by have := Nat.mod_lt (v / 2 ^ m) (show 0 < 2 ^ (i + 1) from Nat.pow_pos (by decide)); omega
    have e : (UInt8.ofNat (v / 2 ^ m % 2 ^ (i + 1))).toNat + v / 2 ^ (m + (i + 1)) % 2 * 2 ^ (i + 1) = v / 2 ^ m % 2 ^ (i + 1 + 1) := by
      rw [of_toNat hlt, Nat.pow_succ (n := 2) (m := i + 1), Nat.mod_mul, Nat.pow_add 2 m (i + 1), Nat.div_div_eq_div_mul, Nat.mul_comm (2 ^ (i + 1)) (_ % 2)]
    rw [e]
/-- 16 bits are two bytes. -/
theorem low16b (l : List UInt8) (v : Nat) : lw (l, 0) v 16 = (l ++ [UInt8.ofNat (v % 256), UInt8.ofNat (v / 256 % 256)], 0) := by
  have h1 := byte_at (v := v) (n := 16) (m := 0) (st := (l, 0)) (l := l) rfl 7 (by decide)
  have h2 := byte_at (v := v) (n := 16) (m := 0 + (7 + 1)) (st := (l, 0)) h1 7 (by decide)
  rw [Nat.pow_zero, Nat.div_one] at h2
  show putS 1 v 16 (l, 0) 16 = _
  rw [show (16 : Nat) = 0 + (7 + 1) + (7 + 1) from rfl]
  rw [show (0 + (7 + 1) + (7 + 1) : Nat) = 16 from rfl] at h2 ⊢
  rw [h2, List.append_assoc]
  rfl
/-- The head of a stored block: three bits, and a new byte. -/
theorem headb (l : List UInt8) {f : Nat} (hf : f ≤ 1) : (lw (lw (l, 0) f 1) 0 2).1 = l ++ [UInt8.ofNat f] := by
  have h1 := byte_at (v := f) (n := 1) (m := 0) (st := (l, 0)) (l := l) rfl 0 (by decide)
  have e1 : lw (l, 0) f 1 = (l ++ [UInt8.ofNat f], 1) := by
    show putS 1 f 1 (l, 0) 1 = _
    rw [show (0 + (0 + 1) : Nat) = 1 from rfl] at h1
    rw [h1, Nat.pow_zero, Nat.div_one, Nat.mod_eq_of_lt (by show f < 2; omega)]
  have z : ∀ k, k ≠ 0 → oneS 1 (l ++ [UInt8.ofNat f], k) (vbit 1 0 2 (k - 1)) = (l ++ [UInt8.ofNat f], (k + 1) % 8) := fun k hk => by
    unfold oneS grow
    rw [vbit1, Nat.zero_div]
    dsimp only
    rw [if_neg hk, Nat.zero_mod, Nat.zero_mul, addLast_push, Nat.add_zero, UInt8.ofNat_toNat]
  rw [e1]
  show (oneS 1 (oneS 1 (l ++ [UInt8.ofNat f], 1) (vbit 1 0 2 0)) (vbit 1 0 2 1)).1 = _
  rw [z 1 (by decide)]
  exact congrArg Prod.fst (z 2 (by decide))
/-- What is written of a string, stored. -/
def stS : Nat → List UInt8 → List UInt8
  | 0, _ => []
  | k + 1, l => if l.length ≤ 65535 then blkS 1 l else blkS 0 (l.take 65535) ++ stS k (l.drop 65535)
def storedT (l : List UInt8) : List UInt8 := stS (l.length + 1) l
theorem storedT_small {l : List UInt8} (h : l.length ≤ 65535) : storedT l = blkS 1 l := by
  unfold storedT stS
  rw [if_pos h]
theorem c_lowW {w : World} {b : Nat} {s : Slc} {way : Int} {st : WS} (h : WrB w b s way st) (hi : WInv way st) (hway : way = 0 ∨ way = 1) (hsz : st.1.length ≤ 274877906944) {v n : Nat} (hv : v < 2 ^ n) (hn : 1 ≤ n) (hn2 : n ≤ 24) :
    C53 (at1 b) (v : Int) (n : Int) w fun e w1 => e = 0 ∧ ∃ s', WrB w1 b s' 1 (lw st v n) ∧ Wn w w1 b s s' := by
  have e2 : ((2 ^ n : Nat) : Int) = 2 ^ n := by simp
  have hp : putR way st (v : Int) (n : Int) 1 = (0, lw st v n, 1) := by
    rw [putR_ok (by rw [Int.toNat_natCast]; omega)]
    simp only [Int.toNat_natCast]
    rw [if_pos (by omega)]
    rfl
  refine (c_wlow h hi hsz (v : Int) (n : Int)).mono ?_
  rw [hp]
  exact fun e w1 h => h
theorem inv1 {way : Int} {st : WS} (hi : WInv way st) (hway : way = 0 ∨ way = 1) (v n : Nat) : WInv 1 (lw st v n) :=
  ⟨(hi.to (by omega)).put _ _ _, fun e => absurd e (by decide)⟩
theorem hd5_eq (f n : Nat) (hn : n ≤ 65535) : hd5 (UInt8.ofNat f) n = [UInt8.ofNat f, UInt8.ofNat (n % 256), UInt8.ofNat (n / 256 % 256), UInt8.ofNat ((65535 - n) % 256), UInt8.ofNat ((65535 - n) / 256 % 256)] := by
  unfold hd5
  rw [show n / 256 % 256 = n / 256 by omega, show (65535 - n) % 256 = 255 - n % 256 by omega, show (65535 - n) / 256 % 256 = 255 - n / 256 by omega]
theorem min_int (n : Nat) : (if (65535 : Int) < ((n : Nat) : Int) then 65535 else ((n : Nat) : Int)) = ((min n 65535 : Nat) : Int) := by
  split <;> omega
/-- foliant/deflate.stored -/
theorem c_storedW {S : ByteArray} (hs : S.size ≤ 1048576) (w : World) : C34 S w fun r w1 => r = ⟨(storedT S.data.toList).toArray⟩ ∧ Ext (fun _ => False) w w1 := by
  refine T34 _ _ _ ?_
  unfold S34
  refine (Bit.c_new w).mono ?_
  rintro r w0 ⟨rfl, hW, he0⟩
  have e0 : (size_list S) = (size_list S) := rfl
  refine ⟨fun m rest w3 => ∃ (pre : List UInt8) (sl : Slc) (k : Nat), m = k ∧ rest.size < k ∧ pre ++ stS k rest.data.toList = storedT S.data.toList ∧ pre.length + 2 * rest.size ≤ 2 * S.size ∧ WrB w3 w.heap.size sl 0 (pre, 0) ∧ Wn w0 w3 w.heap.size ⟨none, 0, 0⟩ sl, S.size + 1, ⟨[], _, _, rfl, by omega, by rw [size_list]; rfl, by simp, hW, Wn.refl _ _ _⟩, ?_⟩
  rintro m rest w3 ⟨pre, sl, k, rfl, hk, hpre, hlen, hW, hn⟩
  obtain ⟨k, rfl⟩ : ∃ j, m = j + 1 := ⟨m - 1, by omega⟩
  have hrl := size_list rest
  unfold S34L1
  have fact : ∀ (f : Nat), (f = 1 ∧ rest.size ≤ 65535) ∨ (f = 0 ∧ 65535 < rest.size) → S34J1 (at1 w.heap.size) rest (fun s' w' => ∃ n', n' < k + 1 ∧ ∃ (pre : List UInt8) (sl : Slc) (k : Nat), n' = k ∧ s'.size < k ∧ pre ++ stS k s'.data.toList = storedT S.data.toList ∧ pre.length + 2 * s'.size ≤ 2 * S.size ∧ WrB w' w.heap.size sl 0 (pre, 0) ∧ Wn w0 w' w.heap.size ⟨none, 0, 0⟩ sl)
      (fun r w1 => r = ⟨(storedT S.data.toList).toArray⟩ ∧ Ext (fun _ => False) w w1) (f : Int) w3 := fun f hf => by
    unfold S34J1
    rw [min_int]
    have hc : min rest.size 65535 ≤ 65535 := Nat.min_le_right _ _
    have hc2 : min rest.size 65535 ≤ rest.size := Nat.min_le_left _ _
    generalize hce : min rest.size 65535 = c at hc hc2 ⊢
    refine (c_lowW hW (WInv.zero _) (.inl rfl) (by show pre.length ≤ _; omega) (v := f) (n := 1) (by show f < 2; omega) (by omega) (by omega)).mono ?_
    rintro _ w4 ⟨rfl, s4, W4, n4⟩
    have l4 : (lw (pre, 0) f 1).1.length ≤ pre.length + 1 := by
      have := byte_at (v := f) (n := 1) (m := 0) (st := (pre, 0)) (l := pre) rfl 0 (by decide)
      have e : lw (pre, 0) f 1 = _ := this
      rw [e]; simp
    refine (c_lowW W4 (inv1 (WInv.zero _) (.inl rfl) _ _) (.inr rfl) (by omega) (v := 0) (n := 2) (by decide) (by omega) (by omega)).mono ?_
    rintro _ w5 ⟨rfl, s5, W5, n5⟩
    refine (c_walign W5).mono ?_
    rintro w6 ⟨W6, e6⟩
    rw [headb pre (by omega)] at W6
    refine (c_lowW W6 (WInv.zero _) (.inl rfl) (by simp; omega) (v := c) (n := 16) (by show c < 65536; omega) (by omega) (by omega)).mono ?_
    rintro _ w7 ⟨rfl, s7, W7, n7⟩
    refine Lt.of ?_
    rw [i64_id (by omega), show (65535 : Int) - (c : Int) = ((65535 - c : Nat) : Int) by omega]
    refine (c_lowW W7 (inv1 (WInv.zero _) (.inl rfl) _ _) (.inr rfl) (by rw [low16b]; simp; omega) (v := 65535 - c) (n := 16) (by show 65535 - c < 65536; omega) (by omega) (by omega)).mono ?_
    rintro _ w8 ⟨rfl, s8, W8, n8⟩
    refine (c_walign W8).mono ?_
    rintro w9 ⟨W9, e9⟩
    rw [low16b, low16b] at W9
    have hext : rest.extract 0 ((c : Int)).toNat = rest.extract 0 c := by rw [Int.toNat_natCast]
    have hesz : (rest.extract 0 c).size = c := by rw [ByteArray.size_extract]; omega
    refine ⟨by omega, by omega, Lt.of ?_⟩
    rw [hext]
    refine (c_wraw W9 (rest.extract 0 c) (by simp; omega) (by omega)).mono ?_
    rintro w10 ⟨s10, W10, n10⟩
    have hst : rawS (pre ++ [UInt8.ofNat f] ++ [UInt8.ofNat (c % 256), UInt8.ofNat (c / 256 % 256)] ++ [UInt8.ofNat ((65535 - c) % 256), UInt8.ofNat ((65535 - c) / 256 % 256)], 0) (rest.extract 0 c) = (pre ++ blkS (UInt8.ofNat f) (rest.data.toList.take c), 0) := by
      have e1 : (rest.extract 0 c).data.toList = rest.data.toList.take c := by rw [extract_list, List.drop_zero, Nat.sub_zero]
      have e2 : (rest.data.toList.take c).length = c := by rw [List.length_take]; omega
      unfold rawS blkS
      rw [e1, e2, hd5_eq f c hc]
      simp
    rw [hst] at W10
    have W10 : WrB w10 w.heap.size s10 0 (pre ++ blkS (UInt8.ofNat f) (rest.data.toList.take c), 0) := W10
    have hn10 := (((((((hn.trans n4).trans n5).to e6).trans n7).trans n8).to e9).trans n10)
    have hpl : (pre ++ blkS (UInt8.ofNat f) (rest.data.toList.take c)).length = pre.length + 5 + c := by
      rw [List.length_append, blkS_len, List.length_take]
      omega
    refine ⟨by omega, by omega, Lt.of ?_⟩
    unfold stS at hpre
    refine Br.eq (fun q => ?_) fun q => ?_
    · have hf1 : f = 1 ∧ rest.size ≤ 65535 := by omega
      rw [if_pos (by omega)] at hpre
      have ec : c = rest.size := by omega
      rw [ec, hf1.1, List.take_of_length_le (by omega)] at W10
      have W10 : WrB w10 w.heap.size s10 0 (pre ++ blkS 1 rest.data.toList, 0) := W10
      rw [hpre] at W10
      refine (c_wtext W10 (by dsimp only; rw [← hpre, List.length_append, blkS_len]; omega)).mono ?_
      rintro x w11 ⟨rfl, e11⟩
      refine ⟨rfl, ?_⟩
      refine ((he0.trans hn10.ext (fun _ h => h) fun j hj hg => ?_)).tr e11
      rcases hg with e | ⟨a, ha, _⟩
      · omega
      · cases ha
    · have hf0 : f = 0 ∧ 65535 < rest.size := by omega
      rw [if_neg (by omega)] at hpre
      have ec : c = 65535 := by omega
      have esz : (rest.extract ((c : Int)).toNat rest.size).size = rest.size - 65535 := by rw [ByteArray.size_extract, Int.toNat_natCast]; omega
      refine ⟨k, by omega, pre ++ blkS (UInt8.ofNat f) (rest.data.toList.take c), s10, k, rfl, by rw [esz]; omega, ?_, by rw [esz, hpl]; omega, W10, hn10⟩
      rw [← hpre, Int.toNat_natCast, extract_drop, ec, hf0.1, List.append_assoc]
      rfl
  refine ⟨fun f w4 => w4 = w3 ∧ ∃ f' : Nat, f = (f' : Int) ∧ ((f' = 1 ∧ rest.size ≤ 65535) ∨ (f' = 0 ∧ 65535 < rest.size)), ?_, ?_⟩
  · rintro f _ ⟨rfl, f', rfl, hf⟩
    exact fact f' hf
  · rw [min_int]
    refine Lt.of (Br.eq (fun q => ⟨rfl, 1, rfl, .inl ⟨rfl, by omega⟩⟩) fun q => ⟨rfl, 0, rfl, .inr ⟨rfl, by omega⟩⟩)
end Inf
end Go.Proofs.YtjkoafjnmkchdaaGreatDoor

/- Inflate: the program's table writes; the law's sized and backed. Conditions: sizes. -/
namespace Go.Proofs.YtjkoafjnmkchdaaGreatDoor
namespace Inf
open Sh Bit
set_option linter.unusedVariables false
set_option linter.unusedSimpArgs false
set_option maxRecDepth 4000
set_option maxHeartbeats 2000000
theorem put_bit {way : Int} {st : WS} (h : way = 0 ∨ way = 1) {b : Nat} (hb : b ≤ 1) : putR way st (b : Int) 1 1 = (0, oneS 1 st b, 1) := by
  rw [putR_ok (by
    have : (2 : Int) ^ (1 : Int).toNat = 2 := by decide
    rw [this]
    omega)]
  rw [if_pos (by decide)]
  show (0, oneS 1 st (vbit 1 (b : Int).toNat 1 0), 1) = _
  have : vbit 1 (b : Int).toNat 1 0 = b := by
    unfold vbit
    rw [if_pos rfl, Int.toNat_natCast, Nat.pow_zero, Nat.div_one]
    omega
  rw [this]
theorem put_low {way : Int} {st : WS} (h : way = 0 ∨ way = 1) {v n : Nat} (hv : v < 2 ^ n) (hn : n ≤ 24) : putR way st (v : Int) (n : Int) 1 = (0, lw st v n, if 0 < (n : Int) then 1 else way) := by
  have e : ((2 ^ n : Nat) : Int) = 2 ^ n := by simp
  rw [putR_ok (by rw [Int.toNat_natCast]; omega), Int.toNat_natCast, Int.toNat_natCast]
  rfl
theorem codes_get {lens : List Int} {g : Nat} (h : g < lens.length) : (codes lens).getD g 0 = codeL lens g := by
  unfold codes
  rw [List.getD_eq_getElem?_getD, List.getElem?_map, List.getElem?_range h]
  rfl
theorem Wn.of {w w1 : World} {b : Nat} {s : Slc} (h : Ext (fun _ => False) w w1) : Wn w w1 b s s := ⟨h.mono fun _ _ e => e.elim, fun _ h => .inl h⟩
attribute [local irreducible] Ld St Nw Nn Lt LdS
section
variable {w : World} {lo hi tb wb : Nat} {way : Int} {ws : Slc} {st : WS} {lens : List Int}
theorem c_write (ht : TB w lo hi tb lens) (hc : chk lens = 0) (hw : WrB w wb ws way st) (hin : WInv way st) (hway : way = 0 ∨ way = 1) (hsz : st.1.length ≤ 200000000000) (hsep : ∀ j, fp wb ws j → j < lo ∨ hi ≤ j)
    {g n : Nat} (hg : g < lens.length) (hn : lens.getD g 0 = (n : Int)) (h0 : 0 < n) :
    C67 (some (⟨tb, 0, none⟩ : Addr)) (at1 wb) (g : Int) w fun e w1 => e = 0 ∧ ∃ ws', WrB w1 wb ws' 1 (cw lens st g) ∧ Wn w w1 wb ws ws' := by
  refine T67 _ _ _ _ _ ?_
  unfold S67
  obtain ⟨s1, s2, s3, h1, h2, h3, h4, h5, h6, h7, h8, h9⟩ := ht
  obtain ⟨n1, n15, _, c, hcc, hci, _, hlt⟩ := code_of hc hg hn h0
  have hlen := (chk_lok hc).len
  have hok : WOK 1 st := hin.to (by omega)
  refine Br.f rfl (Br.f rfl (Br.f (by simp) (Nn.of (Ld.of h1 (o := 0) (x := s1) rfl ?_))))
  rw [h2.1]
  refine Br.f (by simp; omega) (Nn.of (Ld.of h1 (o := 0) (x := s1) rfl ⟨by omega, by rw [h2.1]; omega, ?_⟩))
  obtain ⟨a, ha, hcell⟩ := h2.get hg
  rw [ha, Int.toNat_natCast]
  refine Nn.of (Ld.mk hcell ?_)
  rw [hn]
  refine Br.f (by simp; omega) ?_
  rw [i64_id (by omega)]
  have e : cw lens st g = Inf.hw st c n n := by unfold cw; rw [hcc, hn, Int.toNat_natCast]
  rw [e]
  refine ⟨fun k s12 w3 => ∃ i : Nat, i ≤ n ∧ k = n - i ∧ s12 = (n : Int) - 1 - (i : Int) ∧ ∃ ws', WrB w3 wb ws' (if i = 0 then way else 1) (Inf.hw st c n i) ∧ Wn w w3 wb ws ws', n, ⟨0, by omega, by omega, by omega, ws, hw, Wn.refl _ _ _⟩, ?_⟩
  rintro k s12 w3 ⟨i, hi, rfl, rfl, ws', hb, hwn⟩
  unfold S67L1
  have hl := hw_len st c n i
  refine Br.dec (fun q => ?_) fun q => ?_
  · have hin' : i < n := by omega
    have hB := hwn.ext.blk h1 fun hf => by have := hsep _ hf; omega
    have hV := h3.keepF hwn.ext fun j hj hf => by have := hsep _ hf; have := h8 j hj; omega
    obtain ⟨a2, ha2, hc2⟩ := hV.get (i := g) (by unfold codes; simpa using hg)
    rw [codes_get hg, ← hci] at hc2
    refine Nn.of ?_
    simp only [add_lit, Nat.zero_add]
    refine Ld.of hB (o := 1) (x := s2) rfl ⟨by omega, by rw [hV.1]; unfold codes; simp; omega, ?_⟩
    rw [ha2, Int.toNat_natCast]
    refine Nn.of (Ld.mk hc2 ⟨by omega, ?_⟩)
    have e3 : ((n : Int) - 1 - (i : Int)).toNat = n - 1 - i := by omega
    have hp15 : 2 ^ n ≤ 2 ^ 15 := Nat.pow_le_pow_right (by decide) n15
    rw [e3, Nat.min_eq_left (by omega), vbit_low c (n - 1 - i) (by omega)]
    have hw2 : (if i = 0 then way else 1) = 0 ∨ (if i = 0 then way else 1) = 1 := by split <;> omega
    have hinv : WInv (if i = 0 then way else 1) (Inf.hw st c n i) := by
      by_cases hi0 : i = 0
      · subst hi0; exact hin
      · rw [if_neg hi0]; exact ⟨hw_ok hok c n i, fun hh => by cases hh⟩
    refine (c_wlow hb hinv (by omega) _ 1).mono ?_
    rw [put_bit hw2 (bit_le _)]
    rintro r w4 ⟨rfl, ws2, hb2, hn2⟩
    refine Br.f rfl ⟨n - (i + 1), by omega, i + 1, by omega, rfl, by rw [i64_id (by omega)]; omega, ws2, ?_, hwn.trans hn2⟩
    rw [if_neg (by omega)]
    exact hb2
  · have : i = n := by omega
    subst this
    rw [if_neg (by omega)] at hb
    exact ⟨rfl, ws', hb, hwn⟩

theorem sizeFK {k : Nat} (hk : k ≤ 28) (x : Int) : sizeF ((257 + k : Nat) : Int) x = if x < 0 ∨ 2 ^ moreL k ≤ x then (0, 1) else ((firstL k : Int) + x, 0) := by
  unfold sizeF
  rw [if_neg (by omega), show (((257 + k : Nat) : Int) - 257).toNat = k by omega]
theorem farFK {k : Nat} (hk : k ≤ 29) (x : Int) : farF (k : Int) x = if x < 0 ∨ 2 ^ moreD k ≤ x then (0, 1) else ((baseD k : Int) + x, 0) := by
  unfold farF
  rw [if_neg (by omega), Int.toNat_natCast]
end
end Inf
end Go.Proofs.YtjkoafjnmkchdaaGreatDoor

/- Maps from strings in memory: made, looked up, written. Conditions: sizes. -/
namespace Go.Proofs.YtjkoafjnmkchdaaGreatDoor
namespace Sh
open Go.WideMaps Go.WideShapes
set_option linter.unusedVariables false
set_option linter.unusedSimpArgs false
/-- What a map holds: keys and values, in the order of their making. -/
abbrev MpL : Type := List (ByteArray × Value)
def MpE (E : List MapEntry) (L : MpL) : Prop := E.map (fun e => (e.key, e.val)) = L.map fun p => ((.string p.1 : Value), p.2)
/-- Block b is a map. -/
structure MpB (w : World) (b : Nat) (L : MpL) : Prop where
  blk : ∃ (E : Array MapEntry) (clock : Nat), w.heap[b]? = some (.map E clock) ∧ MpE E.toList L
  one : (L.map (·.1)).Nodup
  few : ∀ p ∈ L, p.1.size ≤ maxLen
def mget : MpL → ByteArray → Option Value
  | [], _ => none
  | p :: L, k => if p.1 = k then some p.2 else mget L k
def mput : MpL → ByteArray → Value → MpL
  | [], k, v => [(k, v)]
  | p :: L, k, v => if p.1 = k then (k, v) :: L else p :: mput L k v
theorem mget_put (L : MpL) (k : ByteArray) (v : Value) (j : ByteArray) : mget (mput L k v) j = if j = k then some v else mget L j := by
  induction L with
  | nil =>
    show (if k = j then some v else none) = _
    by_cases h : j = k
    · rw [if_pos h, if_pos h.symm]
    · rw [if_neg h, if_neg (fun e => h e.symm)]
      rfl
  | cons p L ih =>
    unfold mput
    by_cases hp : p.1 = k
    · rw [if_pos hp]
      show (if k = j then some v else mget L j) = if j = k then some v else (if p.1 = j then some p.2 else mget L j)
      by_cases h : j = k
      · rw [if_pos h, if_pos h.symm]
      · rw [if_neg h, if_neg (fun e => h e.symm), if_neg (fun e => h (e.symm.trans hp))]
    · rw [if_neg hp]
      show (if p.1 = j then some p.2 else mget (mput L k v) j) = if j = k then some v else (if p.1 = j then some p.2 else mget L j)
      by_cases h1 : p.1 = j
      · rw [if_pos h1, if_pos h1, if_neg (fun e => hp (h1.trans e))]
      · rw [if_neg h1, if_neg h1, ih]
theorem mget_none {L : MpL} {k : ByteArray} (h : k ∉ L.map (·.1)) : mget L k = none := by
  induction L with
  | nil => rfl
  | cons p L ih =>
    rw [List.map_cons] at h
    unfold mget
    rw [if_neg (fun e => h (by rw [e]; exact List.mem_cons_self ..))]
    exact ih fun hm => h (List.mem_cons_of_mem _ hm)
section
variable {P : Program} {w : World} {t k e : TypeId} {b : Nat} {L : MpL} {z : Value}
theorem MpB.keepF {F : Nat → Prop} {w' : World} (h : MpB w b L) (he : Ext F w w') (hb : ¬ F b) : MpB w' b L := by
  obtain ⟨E, c, h1, h2⟩ := h.blk
  exact ⟨⟨E, c, by rw [he.block b (Array.getElem?_eq_some_iff.1 h1).1 hb]; exact h1, h2⟩, h.one, h.few⟩
theorem MpB.keep {w' : World} (h : MpB w b L) (he : Ext (fun _ => False) w w') : MpB w' b L := h.keepF he id
theorem MpB.lt (h : MpB w b L) : b < w.heap.size := by
  obtain ⟨E, c, h1, h2⟩ := h.blk
  exact (Array.getElem?_eq_some_iff.1 h1).1
theorem MpB.new (w : World) : MpB (w.alloc (.map #[] 0)) w.heap.size [] := ⟨⟨#[], 0, by show (w.heap.push _)[w.heap.size]? = _; simp, rfl⟩, List.nodup_nil, fun p hp => by cases hp⟩
theorem mput_keys (L : MpL) (k : ByteArray) (v : Value) : (k ∈ L.map (·.1) ∧ (mput L k v).map (·.1) = L.map (·.1)) ∨ (k ∉ L.map (·.1) ∧ mput L k v = L ++ [(k, v)]) := by
  induction L with
  | nil => exact .inr ⟨by simp, rfl⟩
  | cons p L ih =>
    unfold mput
    by_cases hp : p.1 = k
    · rw [if_pos hp]
      exact .inl ⟨by rw [List.map_cons, hp]; exact List.mem_cons_self .., by rw [List.map_cons, List.map_cons, hp]⟩
    · rw [if_neg hp]
      rcases ih with ⟨h1, h2⟩ | ⟨h1, h2⟩
      · exact .inl ⟨List.mem_cons_of_mem _ h1, by rw [List.map_cons, List.map_cons, h2]⟩
      · exact .inr ⟨fun h => by
          rw [List.map_cons] at h
          rcases List.mem_cons.1 h with h | h
          · exact hp h.symm
          · exact h1 h, by rw [h2]; rfl⟩
theorem mput_nodup {L : MpL} (h : (L.map (·.1)).Nodup) (k : ByteArray) (v : Value) : ((mput L k v).map (·.1)).Nodup := by
  rcases mput_keys L k v with ⟨_, h2⟩ | ⟨h1, h2⟩
  · rw [h2]; exact h
  · rw [h2, List.map_append]
    exact List.nodup_append.2 ⟨h, by simp, fun a ha c hc e => h1 (by rw [List.map_cons, List.map_nil, List.mem_singleton] at hc; rw [← show c = k from hc, ← e]; exact ha)⟩
theorem mput_few {L : MpL} {k : ByteArray} {v : Value} (h : ∀ p ∈ L, p.1.size ≤ maxLen) (hk : k.size ≤ maxLen) : ∀ p ∈ mput L k v, p.1.size ≤ maxLen := by
  induction L with
  | nil => intro p hp; rw [List.mem_singleton.1 hp]; exact hk
  | cons q L ih =>
    intro p hp
    unfold mput at hp
    split at hp
    · rcases List.mem_cons.1 hp with rfl | hp
      · exact hk
      · exact h p (List.mem_cons_of_mem _ hp)
    · rcases List.mem_cons.1 hp with rfl | hp
      · exact h p (List.mem_cons_self ..)
      · exact ih (fun p hp => h p (List.mem_cons_of_mem _ hp)) p hp
theorem at_key {L : MpL} (h : (L.map (·.1)).Nodup) {j : Nat} {k : ByteArray} {x : Value} (hj : L[j]? = some (k, x)) : mget L k = some x ∧ ∀ v, mput L k v = L.set j (k, v) := by
  induction L generalizing j with
  | nil => cases hj
  | cons p L ih =>
    cases j with
    | zero =>
      cases hj
      exact ⟨by unfold mget; rw [if_pos rfl], fun v => by unfold mput; rw [if_pos rfl]; rfl⟩
    | succ j =>
      have hj : L[j]? = some (k, x) := by simpa using hj
      rw [List.map_cons, List.nodup_cons] at h
      have hne : ¬ p.1 = k := fun e => h.1 (by rw [e]; exact List.mem_map.2 ⟨_, List.mem_of_getElem? hj, rfl⟩)
      obtain ⟨h1, h2⟩ := ih h.2 hj
      refine ⟨?_, fun v => ?_⟩
      · unfold mget
        rw [if_neg hne]
        exact h1
      · unfold mput
        rw [if_neg hne, h2]
        rfl
theorem MpE.get {E : List MapEntry} (h : MpE E L) {i : Nat} {x : MapEntry} (hi : E[i]? = some x) : ∃ p, L[i]? = some p ∧ x.key = .string p.1 ∧ x.val = p.2 := by
  have h1 : (E.map fun e => (e.key, e.val))[i]? = some (x.key, x.val) := by rw [List.getElem?_map, hi]; rfl
  rw [h, List.getElem?_map] at h1
  obtain ⟨p, hp, h2⟩ := Option.map_eq_some_iff.1 h1
  exact ⟨p, hp, (congrArg Prod.fst h2).symm, (congrArg Prod.snd h2).symm⟩
theorem MpE.keys {E : List MapEntry} (h : MpE E L) (hk : P.underlying k = some .string) (hs : ∀ p ∈ L, p.1.size ≤ maxLen) : ∀ x ∈ E, ∃ l, keyOf P k x.key = some l := fun x hx => by
  obtain ⟨i, hi⟩ := List.getElem?_of_mem hx
  obtain ⟨p, hp, h1, _⟩ := h.get hi
  exact ⟨_, by rw [h1]; exact keyOf_string_mk hk (hs p (List.mem_of_getElem? hp))⟩
/-- What the search for a key finds. -/
theorem mp_find {E : List MapEntry} (h : MpE E L) (hn : (L.map (·.1)).Nodup) (hk : P.underlying k = some .string) (hs : ∀ p ∈ L, p.1.size ≤ maxLen) {key : ByteArray} (hks : key.size ≤ maxLen) (w : World) :
    ((Instr.findKey k (.string key) E).run P w = .ok none w ∧ mget L key = none ∧ key ∉ L.map (·.1)) ∨ ∃ j x, (Instr.findKey k (.string key) E).run P w = .ok (some (j, x)) w ∧ L[j]? = some (key, x) ∧ (E[j]?).map (·.key) = some (.string key) := by
  rcases (string_law hk).find w (keyOf_string_mk hk hks) E (h.keys hk hs) with ⟨h1, h2⟩ | ⟨j, x, h1, h2, h3⟩
  · have no : key ∉ L.map (·.1) := fun hm => by
      obtain ⟨p, hp, e⟩ := List.mem_map.1 hm
      obtain ⟨i, hi⟩ := List.getElem?_of_mem hp
      have hl : (E.map fun e => (e.key, e.val))[i]? = some ((.string p.1 : Value), p.2) := by rw [h, List.getElem?_map, hi]; rfl
      rw [List.getElem?_map] at hl
      obtain ⟨x, hx, h4⟩ := Option.map_eq_some_iff.1 hl
      refine h2 x (List.mem_of_getElem? hx) ?_
      exact (congrArg Prod.fst h4).trans (by rw [e])
    exact .inl ⟨h1, mget_none no, no⟩
  · obtain ⟨p, hp, h4, h5⟩ := h.get h2
    have hp1 : p.1 = key := by
      rw [h3] at h4
      exact (Value.string.inj h4).symm
    exact .inr ⟨j, x.val, h1, by rw [hp, h5, ← hp1], by rw [h2]; exact congrArg some h3⟩
theorem MpB.look (h : MpB w b L) (ht : P.underlying t = some (.map k e)) (hk : P.underlying k = some .string) (hz : (zeroValue e).run P w = .ok z w) {key : ByteArray} (hks : key.size ≤ maxLen) :
    RunV P (Instr.lookup t (.map (some b)) (.string key) false) w ((mget L key).getD z) w := by
  obtain ⟨E, c, hb, hE⟩ := h.blk
  have hkey := keyOf_string_mk hk hks
  have hch := (string_law hk).check w E.isEmpty hkey
  rcases mp_find hE h.one hk h.few hks w with ⟨h1, h2, _⟩ | ⟨j, x, h1, h2, _⟩
  · rw [h2]
    simp [RunV, Instr.lookup, run_underlying ht, MapKept.run_getObj_map hb, hch, h1, hz, Result.andThen]
  · rw [(at_key h.one h2).1]
    simp [RunV, Instr.lookup, run_underlying ht, MapKept.run_getObj_map hb, hch, h1, Result.andThen]
theorem MpB.put (h : MpB w b L) (ht : P.underlying t = some (.map k e)) (hk : P.underlying k = some .string) {key : ByteArray} (hks : key.size ≤ maxLen) (v : Value) :
    ∃ w', RunU P (Instr.mapUpdate t (.map (some b)) (.string key) v) w w' ∧ MpB w' b (mput L key v) ∧ Ext (· = b) w w' := by
  obtain ⟨E, c, hb, hE⟩ := h.blk
  have hkey := keyOf_string_mk hk hks
  have hch := (string_law hk).check w false hkey
  have ext : ∀ o : Obj, Ext (· = b) w { w with heap := w.heap.setIfInBounds b o } := fun o => ⟨rfl, rfl, rfl, by simp, fun i hi hn => by
    show (w.heap.setIfInBounds b o)[i]? = _
    rw [Array.getElem?_setIfInBounds_ne (fun e => hn e.symm)]⟩
  have here : ∀ o : Obj, ({ w with heap := w.heap.setIfInBounds b o } : World).heap[b]? = some o := fun o => by
    show (w.heap.setIfInBounds b o)[b]? = _
    rw [Array.getElem?_setIfInBounds_self_of_lt (Array.getElem?_eq_some_iff.1 hb).1]
  rcases mp_find hE h.one hk h.few hks w with ⟨h1, h2, h3⟩ | ⟨j, x, h1, h2, h3⟩
  · refine ⟨{ w with heap := w.heap.setIfInBounds b (.map (E.push { key := .string key, val := v, born := c }) (c + 1)) }, ?_, ⟨⟨_, _, here _, ?_⟩, mput_nodup h.one _ _, mput_few h.few hks⟩, ext _⟩
    · simp [RunU, Instr.mapUpdate, run_underlying ht, MapKept.run_getObj_map hb, hch, h1, Result.andThen, MapKept.run_setObj_map _ hb]
    · rcases mput_keys L key v with ⟨h4, _⟩ | ⟨_, h4⟩
      · exact absurd h4 h3
      · rw [h4]
        unfold MpE at hE ⊢
        rw [Array.toList_push, List.map_append, hE, List.map_append]
        rfl
  · obtain ⟨y, hy, hy2⟩ := Option.map_eq_some_iff.1 h3
    have hyE : E[j]? = some y := by simpa using hy
    refine ⟨{ w with heap := w.heap.setIfInBounds b (.map (E.modify j fun e => { e with key := .string key, val := v }) c) }, ?_, ⟨⟨_, _, here _, ?_⟩, mput_nodup h.one _ _, mput_few h.few hks⟩, ext _⟩
    · simp [RunU, Instr.mapUpdate, run_underlying ht, MapKept.run_getObj_map hb, hch, h1, Result.andThen, MapKept.run_setObj_map _ hb, hyE, hy2, (string_law hk).stays w hkey]
    · rw [(at_key h.one h2).2]
      unfold MpE at hE ⊢
      have hEi : ∀ i, (E.toList[i]?).map (fun e : MapEntry => (e.key, e.val)) = (L[i]?).map (fun p : ByteArray × Value => ((.string p.1 : Value), p.2)) := fun i => by rw [← List.getElem?_map, hE, List.getElem?_map]
      rw [Array.toList_modify]
      apply List.ext_getElem?
      intro i
      have hL : j < L.length := (List.getElem?_eq_some_iff.1 h2).1
      rw [List.getElem?_map, List.getElem?_map, List.getElem?_modify, List.getElem?_set]
      by_cases hij : j = i
      · subst hij
        rw [if_pos rfl, if_pos hL, hy]
        simp
      · rw [if_neg hij, ← hEi i]
        simp [hij]
end
end Sh
end Go.Proofs.YtjkoafjnmkchdaaGreatDoor

/- Deflate: the trail of places in a map, and the copy that it finds. Conditions: sizes. -/
namespace Go.Proofs.YtjkoafjnmkchdaaGreatDoor
namespace Inf
open Sh Bit
set_option linter.unusedVariables false
set_option linter.unusedSimpArgs false
set_option maxRecDepth 4000
set_option maxHeartbeats 1000000
attribute [local irreducible] Ld St Nw Nn Lt LdS
theorem c_alike {S : ByteArray} {a b m : Nat} (hab : a ≤ b) (hb : b + m ≤ S.size) (hs : S.size ≤ 2000000) (w : World) : C87 S (a : Int) (b : Int) (m : Int) w fun r w1 => r = ((alikeK S.data.toList a b 0 m : Nat) : Int) ∧ Ext (fun _ => False) w w1 := by
  refine T87 _ _ _ _ _ _ ?_
  unfold S87
  refine ⟨fun k st w3 => ∃ n : Nat, st = (n : Int) ∧ n ≤ m ∧ k = m - n ∧ alikeK S.data.toList a b n (m - n) = alikeK S.data.toList a b 0 m ∧ Ext (fun _ => False) w w3, m, ⟨0, rfl, by omega, rfl, rfl, Ext.refl _ _⟩, ?_⟩
  rintro k st w3 ⟨n, rfl, hn, rfl, ha, he⟩
  unfold S87L1
  refine Br.dec (fun q => ?_) fun q => ?_
  · rw [i64_id (n := (a : Int) + (n : Int)) (by omega), i64_id (n := (b : Int) + (n : Int)) (by omega), show (a : Int) + (n : Int) = ((a + n : Nat) : Int) by omega, show (b : Int) + (n : Int) = ((b + n : Nat) : Int) by omega, bAt_list, bAt_list]
    rw [show m - n = (m - (n + 1)) + 1 by omega, alikeK_step] at ha
    refine ⟨by omega, by omega, by omega, by omega, Br.eq (fun h1 => ?_) fun h1 => ?_⟩
    · rw [if_pos (UInt8.toNat_inj.1 (by omega))] at ha
      exact ⟨m - (n + 1), by omega, n + 1, by rw [i64_id (by omega)]; rfl, by omega, rfl, ha, he.drew⟩
    · rw [if_neg (fun e => h1 (by rw [e]))] at ha
      exact ⟨by rw [ha], he.drew⟩
  · have : n = m := by omega
    subst this
    rw [Nat.sub_self] at ha
    exact ⟨by rw [← ha]; rfl, he.drew⟩
/-- The places before p where these three bytes are. -/
def posN (s : List UInt8) (p : Nat) (key : List UInt8) : List Nat := (List.range p).filter fun q => (s.drop q).take 3 = key ∧ q + 3 ≤ s.length
theorem posN_succ (s : List UInt8) (p : Nat) (key : List UInt8) : posN s (p + 1) key = if (s.drop p).take 3 = key ∧ p + 3 ≤ s.length then posN s p key ++ [p] else posN s p key := by
  unfold posN
  rw [List.range_succ, List.filter_append]
  split
  · rename_i h
    congr 1
    simp [h]
  · rename_i h
    rw [show List.filter (fun q => decide ((s.drop q).take 3 = key ∧ q + 3 ≤ s.length)) [p] = [] by simp only [List.filter_cons, List.filter_nil, h, decide_false]; rfl, List.append_nil]
theorem posN_end (s : List UInt8) {p : Nat} (hp : s.length < p + 3) (key : List UInt8) : ∀ d, posN s (p + d) key = posN s p key
  | 0 => rfl
  | d + 1 => by
    rw [← Nat.add_assoc, posN_succ, if_neg (by omega), posN_end s hp key d]
theorem posN_mem {s : List UInt8} {p q : Nat} {key : List UInt8} : q ∈ posN s p key ↔ q < p ∧ (s.drop q).take 3 = key ∧ q + 3 ≤ s.length := by
  unfold posN
  rw [List.mem_filter, List.mem_range, decide_eq_true_iff]
theorem posN_sort (s : List UInt8) (p : Nat) (key : List UInt8) : (posN s p key).Pairwise (· < ·) := List.Pairwise.filter _ List.pairwise_lt_range
theorem posN_len (s : List UInt8) (p : Nat) (key : List UInt8) : (posN s p key).length ≤ p := by
  unfold posN
  have := List.length_filter_le (fun q => decide ((s.drop q).take 3 = key ∧ q + 3 ≤ s.length)) (List.range p)
  rw [List.length_range] at this
  exact this
/-- Where no such place is, nothing is found. -/
theorem thr_skip {s : List UInt8} {p F : Nat} : ∀ d, (∀ k, F < k → k ≤ F + d → mlen s p k < 3) → thr (bst s p (F + d)) = thr (bst s p F)
  | 0, _ => rfl
  | d + 1, h => by
    rw [← Nat.add_assoc, thr_low (h (F + d + 1) (by omega) (by omega))]
    exact thr_skip d fun k h1 h2 => h k h1 (by omega)
theorem mem_mlen {s : List UInt8} {p k : Nat} (h3 : p + 3 ≤ s.length) (h1 : 1 ≤ k) (hk : k ≤ p) : 3 ≤ mlen s p k ↔ p - k ∈ posN s p ((s.drop p).take 3) := by
  rw [mlen3 h3 hk, posN_mem]
  exact ⟨fun h => ⟨by omega, h, by omega⟩, fun h => h.2.1⟩
/-- What the trail holds. -/
structure Trl (w : World) (mb : Nat) (L : MpL) (s : List UInt8) (p : Nat) : Prop where
  map : MpB w mb L
  val : ∀ k v, mget L k = some v → ∃ sl, v = Slc.v sl ∧ Row w sl 3 1 (ints (ordI (posN s p k.data.toList))) ∧ ¬ sl.own mb
  no : ∀ k, mget L k = none → posN s p k.data.toList = []
  sep : ∀ k k' sl sl', mget L k = some (Slc.v sl) → mget L k' = some (Slc.v sl') → k ≠ k' → ∀ j, sl.own j → ¬ sl'.own j
/-- The blocks of a trail. -/
def tOwn (mb : Nat) (L : MpL) (j : Nat) : Prop := j = mb ∨ ∃ k sl, mget L k = some (Slc.v sl) ∧ sl.own j
section
variable {w : World} {mb : Nat} {L : MpL} {s : List UInt8} {p : Nat}
theorem Trl.keepF {F : Nat → Prop} {w' : World} (h : Trl w mb L s p) (he : Ext F w w') (hF : ∀ j, tOwn mb L j → ¬ F j) : Trl w' mb L s p :=
  ⟨h.map.keepF he (hF mb (.inl rfl)), fun k v hk => by
    obtain ⟨sl, h1, h2, h3⟩ := h.val k v hk
    exact ⟨sl, h1, h2.keep he fun j hj => hF j (.inr ⟨k, sl, by rw [hk, h1], hj⟩), h3⟩, h.no, h.sep⟩
theorem Trl.keep {w' : World} (h : Trl w mb L s p) (he : Ext (fun _ => False) w w') : Trl w' mb L s p := h.keepF he fun _ _ h => h
theorem Trl.lt (h : Trl w mb L s p) {j : Nat} (hj : tOwn mb L j) : j < w.heap.size := by
  rcases hj with rfl | ⟨k, sl, hk, hj⟩
  · exact h.map.lt
  · obtain ⟨sl', h1, h2, _⟩ := h.val k _ hk
    rw [Slc.v_inj] at h1
    subst h1
    exact h2.own_lt hj
theorem und54 : Tryz.prog.underlying 89 = some (.map 9 76) := by kernel_rfl
theorem zero72 (w : World) : (zeroValue 76).run Tryz.prog w = .ok (Slc.v ⟨none, 0, 0⟩) w := by
  have h : (Tryz.prog.info? 76).bind (·.zero) = some (Slc.v ⟨none, 0, 0⟩) := by kernel_rfl
  cases hi : Tryz.prog.info? 76 with
  | none => rw [hi] at h; cases h
  | some i =>
    rw [hi] at h
    have hz : i.zero = some (Slc.v ⟨none, 0, 0⟩) := h
    simp [zeroValue, typeInfo, hi, hz]
/-- A key is looked up. -/
theorem Trl.look (h : Trl w mb L s p) {key : ByteArray} (hk : key.size ≤ maxLen) : ∃ sl, RunV Tryz.prog (Instr.lookup 89 (.map (some mb)) (.string key) false) w (Slc.v sl) w ∧ Row w sl 3 1 (ints (ordI (posN s p key.data.toList))) ∧ (∀ j, sl.own j → tOwn mb L j ∧ j ≠ mb) ∧
    ∀ k' sl', mget L k' = some (Slc.v sl') → k' ≠ key → ∀ j, sl.own j → ¬ sl'.own j := by
  have hr := h.map.look und54 und_string (zero72 w) hk
  cases hg : mget L key with
  | none =>
    rw [hg] at hr
    refine ⟨⟨none, 0, 0⟩, hr, ?_, fun j hj => ?_, fun k' sl' _ _ j hj => ?_⟩
    · rw [h.no key hg]
      exact Row.nil w _ _
    · obtain ⟨a, ha, _⟩ := hj; cases ha
    · obtain ⟨a, ha, _⟩ := hj; cases ha
  | some v =>
    rw [hg] at hr
    obtain ⟨sl, rfl, h2, h3⟩ := h.val key v hg
    exact ⟨sl, hr, h2, fun j hj => ⟨.inr ⟨key, sl, hg, hj⟩, fun e => h3 (by rw [← e]; exact hj)⟩, fun k' sl' hk' hne j hj => h.sep key k' sl sl' hg hk' (fun e => hne e.symm) j hj⟩
end
section
variable {w : World} {mb : Nat} {L : MpL} {S : ByteArray} {p : Nat}
/-- The copy that the trail finds: the longest, the nearest of these. -/
theorem c_copiedT (h : Trl w mb L S.data.toList p) (hp : p < S.size) (hs : S.size ≤ 1048576) :
    C57 (some mb) S (p : Int) w fun r w1 => r = (0, (((thr (bst S.data.toList p (farK p))).1 : Nat) : Int), (((thr (bst S.data.toList p (farK p))).2 : Nat) : Int)) ∧ Ext (fun _ => False) w w1 := by
  have hsz : S.data.toList.length = S.size := (size_list S).symm
  refine T57 _ _ _ _ _ ?_
  unfold S57
  refine (Hn.start w).nw fun w4 H => ?_
  simp only [List.nil_append] at H
  refine H.nw fun w5 H => ?_
  simp only [List.cons_append, List.nil_append] at H
  rw [i64_id (n := (p : Int) + 3) (by omega)]
  refine Br.dec (fun q => ?_) fun q => ?_
  · iterate 3 refine H.ld 1 rfl rfl ?_
    iterate 3 (refine H.st 0 rfl (by simp) fun _ H => ?_; simp only [List.nil_append, List.cons_append, List.set_cons_zero, List.set_cons_succ, Nat.zero_add] at H)
    iterate 3 refine H.ld 0 rfl rfl ?_
    have : thr (bst S.data.toList p (farK p)) = (0, 0) := by
      have := bst_le S.data.toList p (farK p)
      unfold mostK at this
      unfold thr
      rw [if_pos (by omega)]
    rw [this]
    exact ⟨rfl, H.ext⟩
  · have h3 : p + 3 ≤ S.data.toList.length := by omega
    have hmk : mostK S.data.toList p = min 258 (S.size - p) := by unfold mostK; rw [hsz]
    have hmost : (if IntKind.i64.wrap (((S.size : Nat) : Int) - (p : Int)) < 258 then IntKind.i64.wrap (((S.size : Nat) : Int) - (p : Int)) else 258) = ((mostK S.data.toList p : Nat) : Int) := by
      rw [hmk, i64_id (by omega)]
      split <;> omega
    rw [hmost]
    refine Lt.of ?_
    have hT := h.keep H.ext
    have e3 : ((p : Int) + 3).toNat = p + 3 := by omega
    rw [e3, Int.toNat_natCast]
    have hkey : (S.extract p (p + 3)).data.toList = (S.data.toList.drop p).take 3 := by rw [extract_list]; congr 1; omega
    obtain ⟨sl, hrun, hrow, hown, _⟩ := hT.look (key := S.extract p (p + 3)) (by rw [ByteArray.size_extract]; unfold maxLen; omega)
    rw [hkey] at hrow
    refine ⟨by omega, by omega, by omega, by omega, sl, _, hrun, ?_⟩
    clear hrun
    have hiv := IV.row hrow
    have hsort := posN_sort S.data.toList p ((S.data.toList.drop p).take 3)
    have hmem := fun k => mem_mlen (s := S.data.toList) (p := p) (k := k) h3
    have hlt : ∀ q, q ∈ posN S.data.toList p ((S.data.toList.drop p).take 3) → q < p := fun q hq => (posN_mem.1 hq).1
    have hlen := posN_len S.data.toList p ((S.data.toList.drop p).take 3)
    generalize posN S.data.toList p ((S.data.toList.drop p).take 3) = PS at hiv hsort hmem hlt hlen
    have hsl : sl.len = PS.length := by rw [hiv.1, ordI_len]
    dsimp only
    rw [hsl]
    -- places between have no copy
    have skip : ∀ F G A B, PS = A ++ B → F ≤ G → G ≤ p → (∀ q ∈ A, G < p - q) → (∀ q ∈ B, p - q ≤ F) → thr (bst S.data.toList p G) = thr (bst S.data.toList p F) := fun F G A B hPS hFG hGp hA hB => by
      have := thr_skip (s := S.data.toList) (p := p) (F := F) (G - F) fun k k1 k2 => by
        rcases Nat.lt_or_ge (mlen S.data.toList p k) 3 with h | h
        · exact h
        · have := (hmem k (by omega) (by omega)).1 h
          rw [hPS] at this
          rcases List.mem_append.1 this with h | h
          · have := hA _ h; omega
          · have := hB _ h; omega
      rw [show F + (G - F) = G by omega] at this
      exact this
    refine ⟨fun m st w9 => ∃ (A B : List Nat) (F : Nat), PS = A ++ B ∧ st = (A.length : Int) - 1 ∧ m = A.length ∧ (∀ q ∈ A, F < p - q) ∧ (∀ q ∈ B, p - q ≤ F) ∧ F ≤ farK p ∧
      Hn w w9 [(w.heap.size, prow (0, 0, 0), 91), (w4.heap.size, prow (0, ((thr (bst S.data.toList p F)).1 : Int), ((thr (bst S.data.toList p F)).2 : Int)), 91)] ∧ IV w9 sl (ordI PS), PS.length,
      ⟨PS, [], 0, by simp, by rw [i64_id (by omega)], rfl, fun q hq => by have := hlt q hq; omega, (fun q hq => by cases hq), Nat.zero_le _, H, hiv⟩, ?_⟩
    rintro m st w9 ⟨A, B, F, hPS, rfl, rfl, hA, hB, hF, H, hiv⟩
    unfold S57L1 prow at *
    have hfk : farK p = min p 32768 := rfl
    have fin : ∀ F', thr (bst S.data.toList p (farK p)) = thr (bst S.data.toList p F') → F' = F → ∀ w9, Hn w w9 [(w.heap.size, prow (0, 0, 0), 91), (w4.heap.size, prow (0, ((thr (bst S.data.toList p F)).1 : Int), ((thr (bst S.data.toList p F)).2 : Int)), 91)] → Ld w9 (⟨w4.heap.size, 0, none⟩ : Addr) (Value.int .u8) fun (x61 : Int) =>
        Ld w9 ((⟨w4.heap.size, 0, none⟩ : Addr).add 1) (Value.int .i64) fun (x62 : Int) =>
        Ld w9 ((⟨w4.heap.size, 0, none⟩ : Addr).add 2) (Value.int .i64) fun (x63 : Int) =>
        St w9 (⟨w.heap.size, 0, none⟩ : Addr) (.int .u8 x61) fun vw64 =>
        St vw64 ((⟨w.heap.size, 0, none⟩ : Addr).add 1) (.int .i64 x62) fun vw65 =>
        St vw65 ((⟨w.heap.size, 0, none⟩ : Addr).add 2) (.int .i64 x63) fun vw66 =>
        Ld vw66 (⟨w.heap.size, 0, none⟩ : Addr) (Value.int .u8) fun (x67 : Int) =>
        Ld vw66 ((⟨w.heap.size, 0, none⟩ : Addr).add 1) (Value.int .i64) fun (x68 : Int) =>
        Ld vw66 ((⟨w.heap.size, 0, none⟩ : Addr).add 2) (Value.int .i64) fun (x69 : Int) =>
        (((x67, x68, x69) : Int × Int × Int) = (0, (((thr (bst S.data.toList p (farK p))).1 : Nat) : Int), (((thr (bst S.data.toList p (farK p))).2 : Nat) : Int)) ∧ Ext (fun _ => False) w vw66) := fun F' hF' e w9 H => by
      subst e
      unfold prow at H
      iterate 3 refine H.ld 1 rfl rfl ?_
      iterate 3 (refine H.st 0 rfl (by simp) fun _ H => ?_; simp only [List.nil_append, List.cons_append, List.set_cons_zero, List.set_cons_succ, Nat.zero_add] at H)
      iterate 3 refine H.ld 0 rfl rfl ?_
      rw [hF']
      exact ⟨rfl, H.ext⟩
    refine Br.dec (fun q1 => ?_) fun q1 => ?_
    · obtain ⟨A', qq, rfl⟩ : ∃ A' qq, A = A' ++ [qq] := by
        rcases List.eq_nil_or_concat A with h | ⟨A', qq, h⟩
        · subst h; simp at q1
        · exact ⟨A', qq, by rw [h, List.concat_eq_append]⟩
      have hAl : (((A' ++ [qq]).length : Nat) : Int) - 1 = (A'.length : Int) := by rw [List.length_append]; simp
      rw [hAl]
      have hPl : A'.length < PS.length := by rw [hPS]; simp
      have hqm : qq ∈ PS := by rw [hPS]; simp
      have hqp := hlt qq hqm
      have hget : ((ordI PS).getD A'.length 0) = (qq : Int) := by
        rw [ordI_get, List.getD_eq_getElem?_getD, hPS, List.append_assoc, List.getElem?_append_right (Nat.le_refl _), Nat.sub_self]
        rfl
      obtain ⟨a, ha, hc⟩ := hiv.get (i := A'.length) (by rw [ordI_len]; exact hPl)
      rw [hget] at hc
      rw [ha]
      refine ⟨by omega, by omega, Nn.of ?_⟩
      rw [Int.toNat_natCast]
      refine Ld.mk (x := (qq : Int)) hc ?_
      have hFq := hA qq (by simp)
      have hA' : ∀ q ∈ A', p - qq < p - q := fun q hq => by
        rw [hPS, List.append_assoc] at hsort
        have := (List.pairwise_append.1 hsort).2.2 q hq qq (by simp)
        omega
      rw [i64_id (n := (p : Int) - (qq : Int)) (by omega)]
      refine Br.dec (fun q2 => ?_) fun q2 => ?_
      · iterate 1 refine H.ld 1 rfl rfl ?_
        refine Br.dec (fun q3 => ?_) fun q3 => ?_
        · refine ⟨by omega, by omega, Nn.of ?_⟩
          refine Ld.mk (x := (qq : Int)) hc ?_
          refine (c_alike (S := S) (a := qq) (b := p) (m := mostK S.data.toList p) (by omega) (by omega) (by omega) w9).mono ?_
          rintro r w36 ⟨rfl, he⟩
          have H := H.keep he
          have hiv := hiv.keep he
          have hcc := he.cell_same hc
          iterate 1 refine H.ld 1 rfl rfl ?_
          have eM : alikeK S.data.toList qq p 0 (mostK S.data.toList p) = mlen S.data.toList p (p - qq) := by
            unfold mlen
            rw [show p - (p - qq) = qq by omega]
          rw [eM]
          have m3 : 3 ≤ mlen S.data.toList p (p - qq) := (hmem (p - qq) (by omega) (by omega)).2 (by rw [show p - (p - qq) = qq by omega]; exact hqm)
          have sk := skip F (p - qq - 1) (A' ++ [qq]) B hPS (by omega) (by omega) (fun q hq => by
            rcases List.mem_append.1 hq with h | h
            · have := hA' q h; omega
            · rw [List.mem_singleton.1 h]; omega) hB
          have th := thr_high (s := S.data.toList) (p := p) (F := p - qq - 1) (by rw [show p - qq - 1 + 1 = p - qq by omega]; exact m3)
          rw [show p - qq - 1 + 1 = p - qq by omega, sk] at th
          have hB' : ∀ q ∈ qq :: B, p - q ≤ p - qq := fun q hq => by
            rcases List.mem_cons.1 hq with rfl | hq
            · exact Nat.le_refl _
            · have := hB q hq; omega
          have hPS' : PS = A' ++ (qq :: B) := by rw [hPS, List.append_assoc]; rfl
          dsimp only
          refine Br.dec (fun q4 => ?_) fun q4 => ?_
          · refine ⟨by omega, by omega, Nn.of ?_⟩
            refine Ld.mk (x := (qq : Int)) hcc ?_
            rw [i64_id (n := (p : Int) - (qq : Int)) (by omega)]
            rw [if_pos (by omega)] at th
            have hiv0 := hiv
            have hsz36 := H.size
            refine H.st' 1 rfl (by simp) fun w40 H e40 => ?_
            simp only [List.set_cons_zero, List.set_cons_succ] at H
            refine H.st' 1 rfl (by simp) fun w41 H e41 => ?_
            simp only [List.set_cons_zero, List.set_cons_succ] at H
            refine H.st' 1 rfl (by simp) fun w42 H e42 => ?_
            simp only [List.set_cons_zero, List.set_cons_succ] at H
            have hnb : ∀ j, sl.own j → ¬ j = w4.heap.size := fun j hj => by
              have h1 := h.lt (hown j hj).1
              have h2 := H.ge 1 rfl
              omega
            refine ⟨A'.length, by simp, A', qq :: B, p - qq, hPS', by rw [i64_id (by omega)], rfl, hA', hB', by omega, ?_, ((hiv.keepF e40 hnb).keepF e41 hnb).keepF e42 hnb⟩
            rw [th]
            dsimp only
            rw [show (p : Int) - (qq : Int) = ((p - qq : Nat) : Int) by omega] at H
            exact H
          · rw [if_neg (by omega)] at th
            exact ⟨A'.length, by simp, A', qq :: B, p - qq, hPS', by rw [i64_id (by omega)], rfl, hA', hB', by omega, by rw [th]; exact H, hiv⟩
        · refine fin F ?_ rfl w9 H
          have hm3 : 3 ≤ mostK S.data.toList p := by omega
          have hle := bst_le S.data.toList p F
          have hq3 : ¬ ((thr (bst S.data.toList p F)).1 : Int) < (mostK S.data.toList p : Int) := q3
          have heq : (bst S.data.toList p F).1 = mostK S.data.toList p := by
            unfold thr at hq3
            split at hq3
            · exact absurd hq3 (by show ¬ ¬ ((0 : Nat) : Int) < _; omega)
            · omega
          have := bst_max heq (farK p - F)
          rw [show F + (farK p - F) = farK p by omega] at this
          rw [this]
      · refine fin F (skip F (farK p) (A' ++ [qq]) B hPS hF (by omega) (fun q hq => ?_) hB) rfl w9 H
        rcases List.mem_append.1 hq with h | h
        · have := hA' q h; omega
        · rw [List.mem_singleton.1 h]; omega
    · have : A = [] := by
        cases A with
        | nil => rfl
        | cons a A => simp at q1
      subst this
      exact fin F (skip F (farK p) [] B hPS hF (by omega) (fun q hq => by cases hq) hB) rfl w9 H
end
end Inf
end Go.Proofs.YtjkoafjnmkchdaaGreatDoor
