/- The formulas of 14 functions of the program, written by program (gen.py); the kernel checks each. No condition. -/
import Derived.Test.YtapgacggllbhiaaFn
import Derived.Test.YtapgacggllbhiaaFnBit
import Derived.Test.YtapgacggllbhiaaFnCode
import Derived.Test.YtapgacggllbhiaaFnCmp
import Derived.Test.YtapgacggllbhiaaCmp
namespace Go.Proofs.Ytapgacggllbhiaa
open Sh
set_option linter.unusedVariables false
set_option maxRecDepth 100000

def C54 (s1 : Slc) (n2 : Int) (w : World) (R : Slc → World → Prop) (PR : Value → World → Prop) : Prop :=
  Calls Try.prog 54 #[Slc.v s1, .int .i64 n2] w fun e w' => (∃ r0 : Slc, e = .returned (Slc.v r0) ∧ R r0 w') ∨ ∃ v, e = .panicked (onePanic v) ∧ PR v w'
theorem C54.mono {s1 : Slc} {n2 : Int} {w : World} {R R' : Slc → World → Prop} {PR PR' : Value → World → Prop} (h : C54 s1 n2 w R PR) (hr : ∀ r0 w', R r0 w' → R' r0 w') (hp : ∀ v w', PR v w' → PR' v w') : C54 s1 n2 w R' PR' :=
  Calls.mono h fun _ _ he => he.elim (fun ⟨r0, he, hR⟩ => .inl ⟨r0, he, hr _ _ hR⟩) fun ⟨v, he, hP⟩ => .inr ⟨v, he, hp _ _ hP⟩
def C47 (slices1 : Slc) (w : World) (R : Slc → World → Prop) (PR : Value → World → Prop) : Prop :=
  Calls Try.prog 47 #[Slc.v slices1] w fun e w' => (∃ r0 : Slc, e = .returned (Slc.v r0) ∧ R r0 w') ∨ ∃ v, e = .panicked (onePanic v) ∧ PR v w'
theorem C47.mono {slices1 : Slc} {w : World} {R R' : Slc → World → Prop} {PR PR' : Value → World → Prop} (h : C47 slices1 w R PR) (hr : ∀ r0 w', R r0 w' → R' r0 w') (hp : ∀ v w', PR v w' → PR' v w') : C47 slices1 w R' PR' :=
  Calls.mono h fun _ _ he => he.elim (fun ⟨r0, he, hR⟩ => .inl ⟨r0, he, hr _ _ hR⟩) fun ⟨v, he, hP⟩ => .inr ⟨v, he, hp _ _ hP⟩
def C58 (data1 : Slc) (a2 : Int) (b3 : Int) (cmp4 : Value) (w : World) (R : World → Prop) : Prop :=
  Calls Try.prog 58 #[Slc.v data1, .int .i64 a2, .int .i64 b3, cmp4] w fun e w' => e = .returned (.tuple #[]) ∧ R w'
theorem C58.mono {data1 : Slc} {a2 : Int} {b3 : Int} {cmp4 : Value} {w : World} {R R' : World → Prop} (h : C58 data1 a2 b3 cmp4 w R) (hr : ∀ w', R w' → R' w') : C58 data1 a2 b3 cmp4 w R' :=
  Calls.mono h fun _ _ ⟨he, hR⟩ => ⟨he, hr _ hR⟩
def C61 (data1 : Slc) (a2 : Int) (b3 : Int) (n4 : Int) (cmp5 : Value) (w : World) (R : World → Prop) : Prop :=
  Calls Try.prog 61 #[Slc.v data1, .int .i64 a2, .int .i64 b3, .int .i64 n4, cmp5] w fun e w' => e = .returned (.tuple #[]) ∧ R w'
theorem C61.mono {data1 : Slc} {a2 : Int} {b3 : Int} {n4 : Int} {cmp5 : Value} {w : World} {R R' : World → Prop} (h : C61 data1 a2 b3 n4 cmp5 w R) (hr : ∀ w', R w' → R' w') : C61 data1 a2 b3 n4 cmp5 w R' :=
  Calls.mono h fun _ _ ⟨he, hR⟩ => ⟨he, hr _ hR⟩
def C60 (data1 : Slc) (a2 : Int) (m3 : Int) (b4 : Int) (cmp5 : Value) (w : World) (R : World → Prop) : Prop :=
  Calls Try.prog 60 #[Slc.v data1, .int .i64 a2, .int .i64 m3, .int .i64 b4, cmp5] w fun e w' => e = .returned (.tuple #[]) ∧ R w'
theorem C60.mono {data1 : Slc} {a2 : Int} {m3 : Int} {b4 : Int} {cmp5 : Value} {w : World} {R R' : World → Prop} (h : C60 data1 a2 m3 b4 cmp5 w R) (hr : ∀ w', R w' → R' w') : C60 data1 a2 m3 b4 cmp5 w R' :=
  Calls.mono h fun _ _ ⟨he, hR⟩ => ⟨he, hr _ hR⟩
def C59 (data1 : Slc) (a2 : Int) (m3 : Int) (b4 : Int) (cmp5 : Value) (w : World) (R : World → Prop) : Prop :=
  Calls Try.prog 59 #[Slc.v data1, .int .i64 a2, .int .i64 m3, .int .i64 b4, cmp5] w fun e w' => e = .returned (.tuple #[]) ∧ R w'
theorem C59.mono {data1 : Slc} {a2 : Int} {m3 : Int} {b4 : Int} {cmp5 : Value} {w : World} {R R' : World → Prop} (h : C59 data1 a2 m3 b4 cmp5 w R) (hr : ∀ w', R w' → R' w') : C59 data1 a2 m3 b4 cmp5 w R' :=
  Calls.mono h fun _ _ ⟨he, hR⟩ => ⟨he, hr _ hR⟩
def C55 (data1 : Slc) (n2 : Int) (cmp3 : Value) (w : World) (R : World → Prop) : Prop :=
  Calls Try.prog 55 #[Slc.v data1, .int .i64 n2, cmp3] w fun e w' => e = .returned (.tuple #[]) ∧ R w'
theorem C55.mono {data1 : Slc} {n2 : Int} {cmp3 : Value} {w : World} {R R' : World → Prop} (h : C55 data1 n2 cmp3 w R) (hr : ∀ w', R w' → R' w') : C55 data1 n2 cmp3 w R' :=
  Calls.mono h fun _ _ ⟨he, hR⟩ => ⟨he, hr _ hR⟩
def C48 (x1 : Slc) (cmp2 : Value) (w : World) (R : World → Prop) : Prop :=
  Calls Try.prog 48 #[Slc.v x1, cmp2] w fun e w' => e = .returned (.tuple #[]) ∧ R w'
theorem C48.mono {x1 : Slc} {cmp2 : Value} {w : World} {R R' : World → Prop} (h : C48 x1 cmp2 w R) (hr : ∀ w', R w' → R' w') : C48 x1 cmp2 w R' :=
  Calls.mono h fun _ _ ⟨he, hR⟩ => ⟨he, hr _ hR⟩
def C43 (a1 : Slc) (b2 : Slc) (weight3 : Value) (w : World) (R : Slc → World → Prop) (PR : Value → World → Prop) : Prop :=
  Calls Try.prog 43 #[Slc.v a1, Slc.v b2, weight3] w fun e w' => (∃ r0 : Slc, e = .returned (Slc.v r0) ∧ R r0 w') ∨ ∃ v, e = .panicked (onePanic v) ∧ PR v w'
theorem C43.mono {a1 : Slc} {b2 : Slc} {weight3 : Value} {w : World} {R R' : Slc → World → Prop} {PR PR' : Value → World → Prop} (h : C43 a1 b2 weight3 w R PR) (hr : ∀ r0 w', R r0 w' → R' r0 w') (hp : ∀ v w', PR v w' → PR' v w') : C43 a1 b2 weight3 w R' PR' :=
  Calls.mono h fun _ _ he => he.elim (fun ⟨r0, he, hR⟩ => .inl ⟨r0, he, hr _ _ hR⟩) fun ⟨v, he, hP⟩ => .inr ⟨v, he, hp _ _ hP⟩
def C33 (a1 : Slc) (b2 : Slc) (w : World) (R : Slc → World → Prop) (PR : Value → World → Prop) : Prop :=
  Calls Try.prog 33 #[Slc.v a1, Slc.v b2] w fun e w' => (∃ r0 : Slc, e = .returned (Slc.v r0) ∧ R r0 w') ∨ ∃ v, e = .panicked (onePanic v) ∧ PR v w'
theorem C33.mono {a1 : Slc} {b2 : Slc} {w : World} {R R' : Slc → World → Prop} {PR PR' : Value → World → Prop} (h : C33 a1 b2 w R PR) (hr : ∀ r0 w', R r0 w' → R' r0 w') (hp : ∀ v w', PR v w' → PR' v w') : C33 a1 b2 w R' PR' :=
  Calls.mono h fun _ _ he => he.elim (fun ⟨r0, he, hR⟩ => .inl ⟨r0, he, hr _ _ hR⟩) fun ⟨v, he, hP⟩ => .inr ⟨v, he, hp _ _ hP⟩
def C34 (l1 : Slc) (w : World) (R : Slc → World → Prop) : Prop :=
  Calls Try.prog 34 #[Slc.v l1] w fun e w' => ∃ r0 : Slc, e = .returned (Slc.v r0) ∧ R r0 w'
theorem C34.mono {l1 : Slc} {w : World} {R R' : Slc → World → Prop} (h : C34 l1 w R) (hr : ∀ r0 w', R r0 w' → R' r0 w') : C34 l1 w R' :=
  Calls.mono h fun _ _ ⟨r0, he, hR⟩ => ⟨r0, he, hr _ _ hR⟩
def C36 (sign1 : Int) (c2 : Addr) (w : World) (R : World → Prop) : Prop :=
  Calls Try.prog 36 #[.int .i64 sign1, .pointer (some c2)] w fun e w' => e = .returned (.tuple #[]) ∧ R w'
theorem C36.mono {sign1 : Int} {c2 : Addr} {w : World} {R R' : World → Prop} (h : C36 sign1 c2 w R) (hr : ∀ w', R w' → R' w') : C36 sign1 c2 w R' :=
  Calls.mono h fun _ _ ⟨he, hR⟩ => ⟨he, hr _ hR⟩
def C35 (c1 : Option Addr) (tell2 : Value) (w : World) (R : World → Prop) : Prop :=
  Calls Try.prog 35 #[.pointer c1, tell2] w fun e w' => e = .returned (.tuple #[]) ∧ R w'
theorem C35.mono {c1 : Option Addr} {tell2 : Value} {w : World} {R R' : World → Prop} (h : C35 c1 tell2 w R) (hr : ∀ w', R w' → R' w') : C35 c1 tell2 w R' :=
  Calls.mono h fun _ _ ⟨he, hR⟩ => ⟨he, hr _ hR⟩
def C17 (counts1 : Slc) (most2 : Int) (w : World) (R : Slc → Int → World → Prop) (PR : Value → World → Prop) : Prop :=
  Calls Try.prog 17 #[Slc.v counts1, .int .i64 most2] w fun e w' => (∃ r0 : Slc, ∃ r1 : Int, e = .returned (.tuple #[Slc.v r0, .int .i64 r1]) ∧ R r0 r1 w') ∨ ∃ v, e = .panicked (onePanic v) ∧ PR v w'
theorem C17.mono {counts1 : Slc} {most2 : Int} {w : World} {R R' : Slc → Int → World → Prop} {PR PR' : Value → World → Prop} (h : C17 counts1 most2 w R PR) (hr : ∀ r0 r1 w', R r0 r1 w' → R' r0 r1 w') (hp : ∀ v w', PR v w' → PR' v w') : C17 counts1 most2 w R' PR' :=
  Calls.mono h fun _ _ he => he.elim (fun ⟨r0, r1, he, hR⟩ => .inl ⟨r0, r1, he, hr _ _ _ hR⟩) fun ⟨v, he, hP⟩ => .inr ⟨v, he, hp _ _ hP⟩

/-- slices.Grow[[]*foliant/code.coin,*foliant/code.coin] -/
def S54 (s1 : Slc) (n2 : Int) (w : World) (R : Slc → World → Prop) (PR : Value → World → Prop) : Prop :=
  Br (decide (n2 < 0)) (PR (.iface 9 (.string ((⟨#[99, 97, 110, 110, 111, 116, 32, 98, 101, 32, 110, 101, 103, 97, 116, 105, 118, 101]⟩ : ByteArray)))) w) (Lt (IntKind.i64.wrap (n2 - (IntKind.i64.wrap (((s1.cap : Nat) : Int) - ((s1.len : Nat) : Int))))) fun (x3 : Int) =>
    Br (decide (x3 > 0)) (0 ≤ ((s1.cap : Nat) : Int) ∧ ((s1.cap : Nat) : Int) ≤ ((s1.cap : Nat) : Int) ∧ Rn Try.prog (Builtin.append_ #[59, 3] 59 #[Slc.v (s1.cut 1 0 ((((s1.cap : Nat) : Int)).toNat) s1.cap), .int .i64 x3]) w Slc.v fun (x4 : Slc) vw5 =>
      0 ≤ ((s1.len : Nat) : Int) ∧ ((s1.len : Nat) : Int) ≤ ((x4.cap : Nat) : Int) ∧ R (x4.cut 1 0 ((((s1.len : Nat) : Int)).toNat) x4.cap) vw5) (R s1 w))
def pl54 : Plan := (.seq (.reg .seq) (.seq (.seq (.reg .seq) (.cond (.reg .seq) .leaf)) (.seq (.seq (.reg .seq) (.seq (.reg .seq) (.cond (.reg .seq) .leaf))) (.seq (.reg .seq) .leaf))))
set_option maxRecDepth 100000 in
theorem T54 (s1 : Slc) (n2 : Int) (w : World) (R : Slc → World → Prop) (PR : Value → World → Prop) (h : S54 s1 n2 w R PR) : C54 s1 n2 w R PR := by
  have e : fnT Try.prog ⟨FF, MAY, PR⟩ pl54 Try.f54 [Slc.v s1, .int .i64 n2] w [(.one .slc)] (fun s w => R s w) = S54 s1 n2 w R PR := by kernel_rfl
  exact (fn_callsP okF okM Try.func54 (by kernel_rfl) (by kernel_rfl) (e.mpr h)).mono fun _ _ he => he.elim (fun ⟨s, he, hR⟩ => .inl ⟨s, he, hR⟩) .inr

def S47L1 (slices1 : Slc) (R : Slc → World → Prop) (I16 : (Slc × Int) → World → Prop) (s14 : Slc × Int) (vw15 : World) : Prop :=
  Br (decide (s14.2 < ((slices1.len : Nat) : Int))) (0 ≤ s14.2 ∧ s14.2 < (slices1.len : Nat) ∧ Nn slices1.p fun a17 =>
    Ld vw15 (a17.add ((s14.2).toNat * 1)) Slc.v fun (x18 : Slc) =>
    Rn Try.prog (Builtin.append_ #[59, 59] 59 #[Slc.v s14.1, Slc.v x18]) vw15 Slc.v fun (x19 : Slc) vw20 =>
    I16 (x19, IntKind.i64.wrap (s14.2 + 1)) vw20) (R s14.1 vw15)
def S47L2 (slices1 : Slc) (R : Slc → World → Prop) (PR : Value → World → Prop) (I9 : (Int × Int) → World → Prop) (s7 : Int × Int) (vw8 : World) : Prop :=
  Br (decide (s7.2 < ((slices1.len : Nat) : Int))) (0 ≤ s7.2 ∧ s7.2 < (slices1.len : Nat) ∧ Nn slices1.p fun a10 =>
    Ld vw8 (a10.add ((s7.2).toNat * 1)) Slc.v fun (x11 : Slc) =>
    Br (decide ((IntKind.i64.wrap (s7.1 + ((x11.len : Nat) : Int))) < 0)) (PR (.iface 9 (.string ((⟨#[108, 101, 110, 32, 111, 117, 116, 32, 111, 102, 32, 114, 97, 110, 103, 101]⟩ : ByteArray)))) vw8) (I9 (IntKind.i64.wrap (s7.1 + ((x11.len : Nat) : Int)), IntKind.i64.wrap (s7.2 + 1)) vw8)) (C54 (⟨none, 0, 0⟩ : Slc) s7.1 vw8 (fun r12 vw13 =>
      Lp (σ := Slc × Int) (S47L1 slices1 R) (r12, 0) vw13) PR)
/-- slices.Concat[[]*foliant/code.coin,*foliant/code.coin] -/
def S47 (slices1 : Slc) (w : World) (R : Slc → World → Prop) (PR : Value → World → Prop) : Prop :=
  Lp (σ := Int × Int) (S47L2 slices1 R PR) (0, 0) w
def pl47 : Plan := (.seq (.reg .seq) (.seq (.reg .seq) (.seq (.seq (.reg .seq) (.block (.loop [(3, (.one (.int .i64))), (11, (.one (.int .i64)))] [0, 9, 10] (.seq (.reg .seq) (.seq (.cond .leaf .leaf) (.seq (.block (.seq (.reg .seq) (.seq (.reg .seq) (.seq (.reg .seq) (.cond (.reg .seq) .leaf))))) (.reg .seq))))))) (.seq (.reg .seq) (.seq (.seq (.reg .seq) (.block (.loop [(6, (.one .slc)), (27, (.one (.int .i64)))] [25, 26] (.seq (.reg .seq) (.seq (.cond .leaf .leaf) (.seq (.block (.seq (.reg .seq) (.reg .seq))) (.reg .seq))))))) (.seq (.reg .seq) .leaf))))))
set_option maxRecDepth 100000 in
theorem T47 (slices1 : Slc) (w : World) (R : Slc → World → Prop) (PR : Value → World → Prop) (h : S47 slices1 w R PR) : C47 slices1 w R PR := by
  have e : fnT Try.prog ⟨FF, MAY, PR⟩ pl47 Try.f47 [Slc.v slices1] w [(.one .slc)] (fun s w => R s w) = S47 slices1 w R PR := by kernel_rfl
  exact (fn_callsP okF okM Try.func47 (by kernel_rfl) (by kernel_rfl) (e.mpr h)).mono fun _ _ he => he.elim (fun ⟨s, he, hR⟩ => .inl ⟨s, he, hR⟩) .inr

def S58_F49L1 (data1 : Slc) (a2 : Int) (c5 : Addr) (s6 : Int) (I8 : Int → World → Prop) (I11 : Int → World → Prop) (s9 : Int) (vw10 : World) : Prop :=
  Br (decide (s9 > a2)) (0 ≤ s9 ∧ s9 < (data1.len : Nat) ∧ Nn data1.p fun a18 =>
    Ld vw10.drew (a18.add ((s9).toNat * 1)) Value.pointer fun (x19 : Option Addr) =>
    0 ≤ (IntKind.i64.wrap (s9 - 1)) ∧ (IntKind.i64.wrap (s9 - 1)) < (data1.len : Nat) ∧ Nn data1.p fun a20 =>
    Ld vw10.drew (a20.add ((IntKind.i64.wrap (s9 - 1)).toNat * 1)) Value.pointer fun (x21 : Option Addr) =>
    C49 x19 x21 c5 vw10.drew fun r22 vw23 =>
      Br (decide (r22 < 0)) (∃ vS24 : World → Prop, vS24 vw23.drew ∧ 0 ≤ (IntKind.i64.wrap (s9 - 1)) ∧ (IntKind.i64.wrap (s9 - 1)) < (data1.len : Nat) ∧ Nn data1.p fun a25 =>
        LdS vS24 (a25.add ((IntKind.i64.wrap (s9 - 1)).toNat * 1)) Value.pointer fun (x26 : Option Addr) =>
        0 ≤ s9 ∧ s9 < (data1.len : Nat) ∧ Nn data1.p fun a27 =>
        LdS vS24 (a27.add ((s9).toNat * 1)) Value.pointer fun (x28 : Option Addr) =>
        0 ≤ s9 ∧ s9 < (data1.len : Nat) ∧ Nn data1.p fun a29 =>
        St vw23.drew (a29.add ((s9).toNat * 1)) (.pointer x26) fun vw30 =>
        0 ≤ (IntKind.i64.wrap (s9 - 1)) ∧ (IntKind.i64.wrap (s9 - 1)) < (data1.len : Nat) ∧ Nn data1.p fun a31 =>
        St vw30 (a31.add ((IntKind.i64.wrap (s9 - 1)).toNat * 1)) (.pointer x28) fun vw32 =>
        I11 (IntKind.i64.wrap (s9 - 1)) vw32) (I8 (IntKind.i64.wrap (s6 + 1)) vw23)) (I8 (IntKind.i64.wrap (s6 + 1)) vw10.drew)
def S58_F49L2 (data1 : Slc) (a2 : Int) (b3 : Int) (c5 : Addr) (R : World → Prop) (I8 : Int → World → Prop) (s6 : Int) (vw7 : World) : Prop :=
  Br (decide (s6 < b3)) (Lp (σ := Int) (S58_F49L1 data1 a2 c5 s6 I8) s6 vw7) (R vw7)
/-- slices.insertionSortCmpFunc[*foliant/code.coin] -/
def S58_F49 (data1 : Slc) (a2 : Int) (b3 : Int) (c5 : Addr) (w : World) (R : World → Prop) : Prop :=
  Lp (σ := Int) (S58_F49L2 data1 a2 b3 c5 R) (IntKind.i64.wrap (a2 + 1)) w
def pl58_F49 : Plan := (.seq (.reg .seq) (.block (.loop [(8, (.one (.int .i64)))] [0, 1, 2, 3] (.seq (.seq (.reg .seq) (.cond .leaf .leaf)) (.seq (.block (.seq (.reg .seq) (.block (.loop [(9, (.one (.int .i64)))] [0, 1, 2, 3, 8] (.seq (.seq (.reg (.tail 14)) (.cond .leaf .leaf)) (.seq (.block (.reg (.held [15] (.take 0 (.take 1 (.take 2 (.take 3 (.take 4 (.take 5 (.take 6 (.take 7 (.take 8 (.take 9 (.take 10 (.take 11 (.take 12 (.take 13 (.take 14 (.eff 15 (some [17]) (.take 16 (.eff 17 (some []) .done))))))))))))))))))))) (.reg .seq))))))) (.reg .seq))))))
set_option maxRecDepth 100000 in
theorem T58_F49 (data1 : Slc) (a2 : Int) (b3 : Int) (c5 : Addr) (w : World) (R : World → Prop) (h : S58_F49 data1 a2 b3 c5 w R) : C58 data1 a2 b3 (.func (.func 49) #[] #[.pointer (some c5)]) w R := by
  have e : fnT Try.prog ⟨FF, MAY, (fun _ _ => False)⟩ pl58_F49 Try.f58 [Slc.v data1, .int .i64 a2, .int .i64 b3, .func (.func 49) #[] #[.pointer (some c5)]] w [] (fun _ w => R w) = S58_F49 data1 a2 b3 c5 w R := by kernel_rfl
  exact (fn_calls okF okM Try.func58 (by kernel_rfl) (by kernel_rfl) (e.mpr h)).mono fun _ _ ⟨_, he, hR⟩ => ⟨he, hR⟩

def S61L1 (data1 : Slc) (a2 : Int) (b3 : Int) (n4 : Int) (R : World → Prop) (I8 : Int → World → Prop) (s6 : Int) (vw7 : World) : Prop :=
  Br (decide (s6 < n4)) (∃ vS9 : World → Prop, vS9 vw7.drew ∧ 0 ≤ (IntKind.i64.wrap (b3 + s6)) ∧ (IntKind.i64.wrap (b3 + s6)) < (data1.len : Nat) ∧ Nn data1.p fun a10 =>
    LdS vS9 (a10.add ((IntKind.i64.wrap (b3 + s6)).toNat * 1)) Value.pointer fun (x11 : Option Addr) =>
    0 ≤ (IntKind.i64.wrap (a2 + s6)) ∧ (IntKind.i64.wrap (a2 + s6)) < (data1.len : Nat) ∧ Nn data1.p fun a12 =>
    LdS vS9 (a12.add ((IntKind.i64.wrap (a2 + s6)).toNat * 1)) Value.pointer fun (x13 : Option Addr) =>
    0 ≤ (IntKind.i64.wrap (a2 + s6)) ∧ (IntKind.i64.wrap (a2 + s6)) < (data1.len : Nat) ∧ Nn data1.p fun a14 =>
    St vw7.drew (a14.add ((IntKind.i64.wrap (a2 + s6)).toNat * 1)) (.pointer x11) fun vw15 =>
    0 ≤ (IntKind.i64.wrap (b3 + s6)) ∧ (IntKind.i64.wrap (b3 + s6)) < (data1.len : Nat) ∧ Nn data1.p fun a16 =>
    St vw15 (a16.add ((IntKind.i64.wrap (b3 + s6)).toNat * 1)) (.pointer x13) fun vw17 =>
    I8 (IntKind.i64.wrap (s6 + 1)) vw17) (R vw7)
/-- slices.swapRangeCmpFunc[*foliant/code.coin] -/
def S61 (data1 : Slc) (a2 : Int) (b3 : Int) (n4 : Int) (cmp5 : Value) (w : World) (R : World → Prop) : Prop :=
  Lp (σ := Int) (S61L1 data1 a2 b3 n4 R) 0 w
def pl61 : Plan := (.seq (.reg .seq) (.block (.loop [(10, (.one (.int .i64)))] [0, 1, 2, 3] (.seq (.seq (.reg .seq) (.cond .leaf .leaf)) (.seq (.block (.reg (.held [21] (.take 0 (.take 1 (.take 2 (.take 3 (.take 4 (.take 5 (.take 6 (.take 7 (.take 8 (.take 9 (.take 10 (.take 11 (.take 12 (.take 13 (.take 14 (.take 15 (.take 16 (.take 17 (.take 18 (.take 19 (.take 20 (.eff 21 (some [23]) (.take 22 (.eff 23 (some []) .done))))))))))))))))))))))))))) (.reg .seq))))))
set_option maxRecDepth 100000 in
theorem T61 (data1 : Slc) (a2 : Int) (b3 : Int) (n4 : Int) (cmp5 : Value) (w : World) (R : World → Prop) (h : S61 data1 a2 b3 n4 cmp5 w R) : C61 data1 a2 b3 n4 cmp5 w R := by
  have e : fnT Try.prog ⟨FF, MAY, (fun _ _ => False)⟩ pl61 Try.f61 [Slc.v data1, .int .i64 a2, .int .i64 b3, .int .i64 n4, cmp5] w [] (fun _ w => R w) = S61 data1 a2 b3 n4 cmp5 w R := by kernel_rfl
  exact (fn_calls okF okM Try.func61 (by kernel_rfl) (by kernel_rfl) (e.mpr h)).mono fun _ _ ⟨_, he, hR⟩ => ⟨he, hR⟩

def S60L1 (data1 : Slc) (m3 : Int) (cmp5 : Value) (R : World → Prop) (I13 : (Int × Int) → World → Prop) (s11 : Int × Int) (vw12 : World) : Prop :=
  Br (s11.1 != s11.2) (Br (decide (s11.1 > s11.2)) (C61 data1 (IntKind.i64.wrap (m3 - s11.1)) m3 s11.2 cmp5 vw12 fun vw14 =>
        I13 (IntKind.i64.wrap (s11.1 - s11.2), s11.2) vw14) (C61 data1 (IntKind.i64.wrap (m3 - s11.1)) (IntKind.i64.wrap ((IntKind.i64.wrap (m3 + s11.2)) - s11.1)) s11.1 cmp5 vw12 fun vw15 =>
        I13 (s11.1, IntKind.i64.wrap (s11.2 - s11.1)) vw15)) (C61 data1 (IntKind.i64.wrap (m3 - s11.1)) m3 s11.1 cmp5 vw12 fun vw16 =>
      R vw16)
/-- slices.rotateCmpFunc[*foliant/code.coin] -/
def S60 (data1 : Slc) (a2 : Int) (m3 : Int) (b4 : Int) (cmp5 : Value) (w : World) (R : World → Prop) : Prop :=
  Lp (σ := Int × Int) (S60L1 data1 m3 cmp5 R) (IntKind.i64.wrap (m3 - a2), IntKind.i64.wrap (b4 - m3)) w
def pl60 : Plan := (.seq (.reg .seq) (.seq (.reg .seq) (.seq (.block (.loop [(10, (.one (.int .i64))), (11, (.one (.int .i64)))] [0, 2, 4] (.seq (.seq (.reg .seq) (.cond .leaf .leaf)) (.block (.seq (.reg .seq) (.cond (.seq (.reg .seq) (.reg .seq)) (.seq (.reg .seq) (.reg .seq)))))))) (.reg .seq))))
set_option maxRecDepth 100000 in
theorem T60 (data1 : Slc) (a2 : Int) (m3 : Int) (b4 : Int) (cmp5 : Value) (w : World) (R : World → Prop) (h : S60 data1 a2 m3 b4 cmp5 w R) : C60 data1 a2 m3 b4 cmp5 w R := by
  have e : fnT Try.prog ⟨FF, MAY, (fun _ _ => False)⟩ pl60 Try.f60 [Slc.v data1, .int .i64 a2, .int .i64 m3, .int .i64 b4, cmp5] w [] (fun _ w => R w) = S60 data1 a2 m3 b4 cmp5 w R := by kernel_rfl
  exact (fn_calls okF okM Try.func60 (by kernel_rfl) (by kernel_rfl) (e.mpr h)).mono fun _ _ ⟨_, he, hR⟩ => ⟨he, hR⟩

def S59_F49L1 (data1 : Slc) (s39 : Int × Int) (R : World → Prop) (I51 : Int → World → Prop) (s49 : Int) (vw50 : World) : Prop :=
  Br (decide (s49 < (IntKind.i64.wrap (s39.1 - 1)))) (∃ vS52 : World → Prop, vS52 vw50.drew ∧ 0 ≤ (IntKind.i64.wrap (s49 + 1)) ∧ (IntKind.i64.wrap (s49 + 1)) < (data1.len : Nat) ∧ Nn data1.p fun a53 =>
    LdS vS52 (a53.add ((IntKind.i64.wrap (s49 + 1)).toNat * 1)) Value.pointer fun (x54 : Option Addr) =>
    0 ≤ s49 ∧ s49 < (data1.len : Nat) ∧ Nn data1.p fun a55 =>
    LdS vS52 (a55.add ((s49).toNat * 1)) Value.pointer fun (x56 : Option Addr) =>
    0 ≤ s49 ∧ s49 < (data1.len : Nat) ∧ Nn data1.p fun a57 =>
    St vw50.drew (a57.add ((s49).toNat * 1)) (.pointer x54) fun vw58 =>
    0 ≤ (IntKind.i64.wrap (s49 + 1)) ∧ (IntKind.i64.wrap (s49 + 1)) < (data1.len : Nat) ∧ Nn data1.p fun a59 =>
    St vw58 (a59.add ((IntKind.i64.wrap (s49 + 1)).toNat * 1)) (.pointer x56) fun vw60 =>
    I51 (IntKind.i64.wrap (s49 + 1)) vw60) (R vw50)
def S59_F49L2 (data1 : Slc) (a2 : Int) (c6 : Addr) (R : World → Prop) (I41 : (Int × Int) → World → Prop) (s39 : Int × Int) (vw40 : World) : Prop :=
  Br (decide (s39.1 < s39.2)) (0 ≤ (IntKind.i64.wrap (Int.fdiv (IntKind.u64.wrap (IntKind.i64.wrap (s39.1 + s39.2))) (2 ^ 1))) ∧ (IntKind.i64.wrap (Int.fdiv (IntKind.u64.wrap (IntKind.i64.wrap (s39.1 + s39.2))) (2 ^ 1))) < (data1.len : Nat) ∧ Nn data1.p fun a42 =>
    Ld vw40.drew (a42.add ((IntKind.i64.wrap (Int.fdiv (IntKind.u64.wrap (IntKind.i64.wrap (s39.1 + s39.2))) (2 ^ 1))).toNat * 1)) Value.pointer fun (x43 : Option Addr) =>
    0 ≤ a2 ∧ a2 < (data1.len : Nat) ∧ Nn data1.p fun a44 =>
    Ld vw40.drew (a44.add ((a2).toNat * 1)) Value.pointer fun (x45 : Option Addr) =>
    C49 x43 x45 c6 vw40.drew fun r46 vw47 =>
      Br (decide (r46 < 0)) (Lt (IntKind.i64.wrap ((IntKind.i64.wrap (Int.fdiv (IntKind.u64.wrap (IntKind.i64.wrap (s39.1 + s39.2))) (2 ^ 1))) + 1)) fun (x48 : Int) =>
        I41 (x48, s39.2) vw47) (I41 (s39.1, IntKind.i64.wrap (Int.fdiv (IntKind.u64.wrap (IntKind.i64.wrap (s39.1 + s39.2))) (2 ^ 1))) vw47)) (Lp (σ := Int) (S59_F49L1 data1 s39 R) a2 vw40)
def S59_F49L3 (data1 : Slc) (s93 : Int × Int) (R : World → Prop) (I105 : Int → World → Prop) (s103 : Int) (vw104 : World) : Prop :=
  Br (decide (s103 > s93.1)) (∃ vS106 : World → Prop, vS106 vw104.drew ∧ 0 ≤ (IntKind.i64.wrap (s103 - 1)) ∧ (IntKind.i64.wrap (s103 - 1)) < (data1.len : Nat) ∧ Nn data1.p fun a107 =>
    LdS vS106 (a107.add ((IntKind.i64.wrap (s103 - 1)).toNat * 1)) Value.pointer fun (x108 : Option Addr) =>
    0 ≤ s103 ∧ s103 < (data1.len : Nat) ∧ Nn data1.p fun a109 =>
    LdS vS106 (a109.add ((s103).toNat * 1)) Value.pointer fun (x110 : Option Addr) =>
    0 ≤ s103 ∧ s103 < (data1.len : Nat) ∧ Nn data1.p fun a111 =>
    St vw104.drew (a111.add ((s103).toNat * 1)) (.pointer x108) fun vw112 =>
    0 ≤ (IntKind.i64.wrap (s103 - 1)) ∧ (IntKind.i64.wrap (s103 - 1)) < (data1.len : Nat) ∧ Nn data1.p fun a113 =>
    St vw112 (a113.add ((IntKind.i64.wrap (s103 - 1)).toNat * 1)) (.pointer x110) fun vw114 =>
    I105 (IntKind.i64.wrap (s103 - 1)) vw114) (R vw104)
def S59_F49L4 (data1 : Slc) (m3 : Int) (c6 : Addr) (R : World → Prop) (I95 : (Int × Int) → World → Prop) (s93 : Int × Int) (vw94 : World) : Prop :=
  Br (decide (s93.1 < s93.2)) (0 ≤ m3 ∧ m3 < (data1.len : Nat) ∧ Nn data1.p fun a96 =>
    Ld vw94.drew (a96.add ((m3).toNat * 1)) Value.pointer fun (x97 : Option Addr) =>
    0 ≤ (IntKind.i64.wrap (Int.fdiv (IntKind.u64.wrap (IntKind.i64.wrap (s93.1 + s93.2))) (2 ^ 1))) ∧ (IntKind.i64.wrap (Int.fdiv (IntKind.u64.wrap (IntKind.i64.wrap (s93.1 + s93.2))) (2 ^ 1))) < (data1.len : Nat) ∧ Nn data1.p fun a98 =>
    Ld vw94.drew (a98.add ((IntKind.i64.wrap (Int.fdiv (IntKind.u64.wrap (IntKind.i64.wrap (s93.1 + s93.2))) (2 ^ 1))).toNat * 1)) Value.pointer fun (x99 : Option Addr) =>
    C49 x97 x99 c6 vw94.drew fun r100 vw101 =>
      Br (!(decide (r100 < 0))) (Lt (IntKind.i64.wrap ((IntKind.i64.wrap (Int.fdiv (IntKind.u64.wrap (IntKind.i64.wrap (s93.1 + s93.2))) (2 ^ 1))) + 1)) fun (x102 : Int) =>
        I95 (x102, s93.2) vw101) (I95 (s93.1, IntKind.i64.wrap (Int.fdiv (IntKind.u64.wrap (IntKind.i64.wrap (s93.1 + s93.2))) (2 ^ 1))) vw101)) (Lp (σ := Int) (S59_F49L3 data1 s93 R) m3 vw94)
def S59_F49J1 (data1 : Slc) (a2 : Int) (b4 : Int) (c6 : Addr) (x115 : Int) (s129 : Int × Int) (R : World → Prop) (s144 : Unit) (vw145 : World) : Prop :=
  Lt (decide ((IntKind.i64.wrap (Int.fdiv (IntKind.u64.wrap (IntKind.i64.wrap (a2 + b4))) (2 ^ 1))) < (IntKind.i64.wrap (x115 - s129.1)))) fun (x146 : Bool) =>
  Br x146 (Br (decide ((IntKind.i64.wrap (x115 - s129.1)) < b4)) (C59 data1 (IntKind.i64.wrap (Int.fdiv (IntKind.u64.wrap (IntKind.i64.wrap (a2 + b4))) (2 ^ 1))) (IntKind.i64.wrap (x115 - s129.1)) b4 (.func (.func 49) #[] #[.pointer (some c6)]) vw145 fun vw147 =>
        R vw147) (R vw145)) (R vw145)
def S59_F49J2 (data1 : Slc) (a2 : Int) (b4 : Int) (c6 : Addr) (x115 : Int) (s129 : Int × Int) (R : World → Prop) (s140 : Unit) (vw141 : World) : Prop :=
  Join (S59_F49J1 data1 a2 b4 c6 x115 s129 R) fun (vJ148 : Unit → World → Prop) =>
    Br (decide (a2 < s129.1)) (Lt (decide (s129.1 < (IntKind.i64.wrap (Int.fdiv (IntKind.u64.wrap (IntKind.i64.wrap (a2 + b4))) (2 ^ 1))))) fun (x149 : Bool) =>
      Br x149 (C59 data1 a2 s129.1 (IntKind.i64.wrap (Int.fdiv (IntKind.u64.wrap (IntKind.i64.wrap (a2 + b4))) (2 ^ 1))) (.func (.func 49) #[] #[.pointer (some c6)]) vw141 fun vw150 =>
          vJ148 () vw150) (vJ148 () vw141)) (vJ148 () vw141)
def S59_F49L5 (data1 : Slc) (a2 : Int) (m3 : Int) (b4 : Int) (c6 : Addr) (x115 : Int) (R : World → Prop) (I131 : (Int × Int) → World → Prop) (s129 : Int × Int) (vw130 : World) : Prop :=
  Br (decide (s129.1 < s129.2)) (Lt (IntKind.i64.wrap (Int.fdiv (IntKind.u64.wrap (IntKind.i64.wrap (s129.1 + s129.2))) (2 ^ 1))) fun (x132 : Int) =>
    0 ≤ (IntKind.i64.wrap ((IntKind.i64.wrap (x115 - 1)) - x132)) ∧ (IntKind.i64.wrap ((IntKind.i64.wrap (x115 - 1)) - x132)) < (data1.len : Nat) ∧ Nn data1.p fun a133 =>
    Ld vw130.drew (a133.add ((IntKind.i64.wrap ((IntKind.i64.wrap (x115 - 1)) - x132)).toNat * 1)) Value.pointer fun (x134 : Option Addr) =>
    0 ≤ x132 ∧ x132 < (data1.len : Nat) ∧ Nn data1.p fun a135 =>
    Ld vw130.drew (a135.add ((x132).toNat * 1)) Value.pointer fun (x136 : Option Addr) =>
    C49 x134 x136 c6 vw130.drew fun r137 vw138 =>
      Br (!(decide (r137 < 0))) (I131 (IntKind.i64.wrap (x132 + 1), s129.2) vw138) (I131 (s129.1, x132) vw138)) (Join (S59_F49J2 data1 a2 b4 c6 x115 s129 R) fun (vJ151 : Unit → World → Prop) =>
      Br (decide (s129.1 < m3)) (Br (decide (m3 < (IntKind.i64.wrap (x115 - s129.1)))) (C60 data1 s129.1 m3 (IntKind.i64.wrap (x115 - s129.1)) (.func (.func 49) #[] #[.pointer (some c6)]) vw130 fun vw152 =>
            vJ151 () vw152) (vJ151 () vw130)) (vJ151 () vw130))
def S59_F49J3 (data1 : Slc) (a2 : Int) (m3 : Int) (b4 : Int) (c6 : Addr) (x115 : Int) (R : World → Prop) (s117 : Int × Int) (vw118 : World) : Prop :=
  Lp (σ := Int × Int) (S59_F49L5 data1 a2 m3 b4 c6 x115 R) (s117.1, s117.2) vw118
/-- slices.symMergeCmpFunc[*foliant/code.coin] -/
def S59_F49 (data1 : Slc) (a2 : Int) (m3 : Int) (b4 : Int) (c6 : Addr) (w : World) (R : World → Prop) : Prop :=
  Br ((IntKind.i64.wrap (m3 - a2)) == 1) (Lp (σ := Int × Int) (S59_F49L2 data1 a2 c6 R) (m3, b4) w) (Br ((IntKind.i64.wrap (b4 - m3)) == 1) (Lp (σ := Int × Int) (S59_F49L4 data1 m3 c6 R) (a2, m3) w) (Lt (IntKind.i64.wrap ((IntKind.i64.wrap (Int.fdiv (IntKind.u64.wrap (IntKind.i64.wrap (a2 + b4))) (2 ^ 1))) + m3)) fun (x115 : Int) =>
      Join (S59_F49J3 data1 a2 m3 b4 c6 x115 R) fun (vJ153 : (Int × Int) → World → Prop) =>
        Lt (decide (m3 > (IntKind.i64.wrap (Int.fdiv (IntKind.u64.wrap (IntKind.i64.wrap (a2 + b4))) (2 ^ 1))))) fun (x154 : Bool) =>
        Br x154 (vJ153 (IntKind.i64.wrap (x115 - b4), IntKind.i64.wrap (Int.fdiv (IntKind.u64.wrap (IntKind.i64.wrap (a2 + b4))) (2 ^ 1))) w) (vJ153 (a2, m3) w)))
def pl59_F49 : Plan := (.seq (.seq (.reg .seq) (.cond (.seq (.reg .seq) (.seq (.reg .seq) (.seq (.block (.loop [(10, (.one (.int .i64))), (11, (.one (.int .i64)))] [0, 1, 4] (.seq (.seq (.reg .seq) (.cond .leaf .leaf)) (.block (.seq (.reg .seq) (.seq (.reg (.tail 9)) (.cond (.reg .seq) (.reg .seq)))))))) (.seq (.seq (.reg .seq) (.block (.loop [(13, (.one (.int .i64)))] [0, 10] (.seq (.seq (.reg .seq) (.cond .leaf .leaf)) (.seq (.block (.reg (.held [15] (.take 0 (.take 1 (.take 2 (.take 3 (.take 4 (.take 5 (.take 6 (.take 7 (.take 8 (.take 9 (.take 10 (.take 11 (.take 12 (.take 13 (.take 14 (.eff 15 (some [17]) (.take 16 (.eff 17 (some []) .done))))))))))))))))))))) (.reg .seq)))))) .leaf)))) .leaf)) (.seq (.seq (.reg .seq) (.cond (.seq (.reg .seq) (.seq (.reg .seq) (.seq (.block (.loop [(14, (.one (.int .i64))), (15, (.one (.int .i64)))] [0, 2, 4] (.seq (.seq (.reg .seq) (.cond .leaf .leaf)) (.block (.seq (.reg .seq) (.seq (.reg (.tail 9)) (.cond (.reg .seq) (.reg .seq)))))))) (.seq (.seq (.reg .seq) (.block (.loop [(17, (.one (.int .i64)))] [0, 14] (.seq (.seq (.reg .seq) (.cond .leaf .leaf)) (.seq (.block (.reg (.held [15] (.take 0 (.take 1 (.take 2 (.take 3 (.take 4 (.take 5 (.take 6 (.take 7 (.take 8 (.take 9 (.take 10 (.take 11 (.take 12 (.take 13 (.take 14 (.eff 15 (some [17]) (.take 16 (.eff 17 (some []) .done))))))))))))))))))))) (.reg .seq)))))) .leaf)))) .leaf)) (.seq (.reg .seq) (.seq (.reg .seq) (.seq (.reg .seq) (.join [(20, (.one (.int .i64))), (21, (.one (.int .i64)))] [0, 1, 2, 3, 4, 18, 19] (.seq (.reg .seq) (.cond (.seq (.reg .seq) (.reg .seq)) (.seq (.reg .seq) (.reg .seq)))) (.seq (.reg .seq) (.seq (.block (.loop [(20, (.one (.int .i64))), (21, (.one (.int .i64)))] [0, 1, 2, 3, 4, 18, 19, 22] (.seq (.seq (.reg .seq) (.cond .leaf .leaf)) (.block (.seq (.reg .seq) (.seq (.reg (.tail 11)) (.cond (.reg .seq) (.reg .seq)))))))) (.seq (.reg .seq) (.join [] [0, 1, 3, 4, 18, 20, 24] (.seq (.reg .seq) (.cond (.reg .seq) .leaf)) (.join [] [0, 3, 4, 18, 24] (.seq (.reg .seq) (.cond (.reg .seq) .leaf)) (.seq (.reg .seq) (.cond (.reg .seq) .leaf)))))))))))))
set_option maxRecDepth 100000 in
theorem T59_F49 (data1 : Slc) (a2 : Int) (m3 : Int) (b4 : Int) (c6 : Addr) (w : World) (R : World → Prop) (h : S59_F49 data1 a2 m3 b4 c6 w R) : C59 data1 a2 m3 b4 (.func (.func 49) #[] #[.pointer (some c6)]) w R := by
  have e : fnT Try.prog ⟨FF, MAY, (fun _ _ => False)⟩ pl59_F49 Try.f59 [Slc.v data1, .int .i64 a2, .int .i64 m3, .int .i64 b4, .func (.func 49) #[] #[.pointer (some c6)]] w [] (fun _ w => R w) = S59_F49 data1 a2 m3 b4 c6 w R := by kernel_rfl
  exact (fn_calls okF okM Try.func59 (by kernel_rfl) (by kernel_rfl) (e.mpr h)).mono fun _ _ ⟨_, he, hR⟩ => ⟨he, hR⟩

def S55_F49L1 (data1 : Slc) (n2 : Int) (c4 : Addr) (s14 : Int) (I16 : Int → World → Prop) (I23 : (Int × Int) → World → Prop) (s21 : Int × Int) (vw22 : World) : Prop :=
  Br (decide (s21.2 ≤ n2)) (C59 data1 s21.1 (IntKind.i64.wrap (s21.1 + s14)) s21.2 (.func (.func 49) #[] #[.pointer (some c4)]) vw22 fun vw24 =>
      I23 (s21.2, IntKind.i64.wrap (s21.2 + (IntKind.i64.wrap (2 * s14)))) vw24) (Br (decide ((IntKind.i64.wrap (s21.1 + s14)) < n2)) (C59 data1 s21.1 (IntKind.i64.wrap (s21.1 + s14)) n2 (.func (.func 49) #[] #[.pointer (some c4)]) vw22 fun vw25 =>
        I16 (IntKind.i64.wrap (s14 * 2)) vw25) (I16 (IntKind.i64.wrap (s14 * 2)) vw22))
def S55_F49L2 (data1 : Slc) (n2 : Int) (c4 : Addr) (R : World → Prop) (I16 : Int → World → Prop) (s14 : Int) (vw15 : World) : Prop :=
  Br (decide (s14 < n2)) (Lp (σ := Int × Int) (S55_F49L1 data1 n2 c4 s14 I16) (0, IntKind.i64.wrap (2 * s14)) vw15) (R vw15)
def S55_F49L3 (data1 : Slc) (n2 : Int) (c4 : Addr) (R : World → Prop) (I11 : (Int × Int) → World → Prop) (s9 : Int × Int) (vw10 : World) : Prop :=
  Br (decide (s9.2 ≤ n2)) (C58 data1 s9.1 s9.2 (.func (.func 49) #[] #[.pointer (some c4)]) vw10 fun vw12 =>
      I11 (s9.2, IntKind.i64.wrap (s9.2 + 20)) vw12) (C58 data1 s9.1 n2 (.func (.func 49) #[] #[.pointer (some c4)]) vw10 fun vw13 =>
      Lp (σ := Int) (S55_F49L2 data1 n2 c4 R) 20 vw13)
/-- slices.stableCmpFunc[*foliant/code.coin] -/
def S55_F49 (data1 : Slc) (n2 : Int) (c4 : Addr) (w : World) (R : World → Prop) : Prop :=
  Lp (σ := Int × Int) (S55_F49L3 data1 n2 c4 R) (0, 20) w
def pl55_F49 : Plan := (.seq (.reg .seq) (.seq (.reg .seq) (.seq (.block (.loop [(7, (.one (.int .i64))), (8, (.one (.int .i64)))] [0, 1, 2, 6] (.seq (.seq (.reg .seq) (.cond .leaf .leaf)) (.block (.seq (.reg .seq) (.seq (.reg .seq) (.reg .seq))))))) (.seq (.reg .seq) (.block (.loop [(6, (.one (.int .i64)))] [0, 1, 2] (.seq (.seq (.reg .seq) (.cond .leaf .leaf)) (.block (.seq (.reg .seq) (.seq (.block (.loop [(7, (.one (.int .i64))), (8, (.one (.int .i64)))] [0, 1, 2, 6] (.seq (.seq (.reg .seq) (.cond .leaf .leaf)) (.block (.seq (.reg .seq) (.seq (.reg .seq) (.reg .seq))))))) (.seq (.seq (.reg .seq) (.seq (.reg .seq) (.cond (.reg .seq) .leaf))) (.reg .seq))))))))))))
set_option maxRecDepth 100000 in
theorem T55_F49 (data1 : Slc) (n2 : Int) (c4 : Addr) (w : World) (R : World → Prop) (h : S55_F49 data1 n2 c4 w R) : C55 data1 n2 (.func (.func 49) #[] #[.pointer (some c4)]) w R := by
  have e : fnT Try.prog ⟨FF, MAY, (fun _ _ => False)⟩ pl55_F49 Try.f55 [Slc.v data1, .int .i64 n2, .func (.func 49) #[] #[.pointer (some c4)]] w [] (fun _ w => R w) = S55_F49 data1 n2 c4 w R := by kernel_rfl
  exact (fn_calls okF okM Try.func55 (by kernel_rfl) (by kernel_rfl) (e.mpr h)).mono fun _ _ ⟨_, he, hR⟩ => ⟨he, hR⟩

/-- slices.SortStableFunc[[]*foliant/code.coin,*foliant/code.coin] -/
def S48_F49 (x1 : Slc) (c3 : Addr) (w : World) (R : World → Prop) : Prop :=
  C55 x1 ((x1.len : Nat) : Int) (.func (.func 49) #[] #[.pointer (some c3)]) w fun vw4 =>
    R vw4
def pl48_F49 : Plan := (.reg .seq)
set_option maxRecDepth 100000 in
theorem T48_F49 (x1 : Slc) (c3 : Addr) (w : World) (R : World → Prop) (h : S48_F49 x1 c3 w R) : C48 x1 (.func (.func 49) #[] #[.pointer (some c3)]) w R := by
  have e : fnT Try.prog ⟨FF, MAY, (fun _ _ => False)⟩ pl48_F49 Try.f48 [Slc.v x1, .func (.func 49) #[] #[.pointer (some c3)]] w [] (fun _ w => R w) = S48_F49 x1 c3 w R := by kernel_rfl
  exact (fn_calls okF okM Try.func48 (by kernel_rfl) (by kernel_rfl) (e.mpr h)).mono fun _ _ ⟨_, he, hR⟩ => ⟨he, hR⟩

/-- foliant/code.sorted[*foliant/code.coin] -/
def S43_F44 (a1 : Slc) (b2 : Slc) (w : World) (R : Slc → World → Prop) (PR : Value → World → Prop) : Prop :=
  Nw w (.cells #[.func (.func 44) #[] #[]] 82) fun vw4 =>
  Nw vw4 (.cells #[Slc.v a1, Slc.v b2] 59) fun vw5 =>
  C47 (⟨some ⟨vw4.heap.size, 0, none⟩, 2, 2⟩ : Slc) vw5 (fun r6 vw7 =>
    C48 r6 (.func (.func 49) #[] #[.pointer (some (⟨w.heap.size, 0, none⟩ : Addr))]) vw7 fun vw8 =>
      R r6 vw8) PR
def pl43_F44 : Plan := (.seq (.reg .seq) (.seq (.reg .seq) (.seq (.reg .seq) (.seq (.reg .seq) .leaf))))
set_option maxRecDepth 100000 in
theorem T43_F44 (a1 : Slc) (b2 : Slc) (w : World) (R : Slc → World → Prop) (PR : Value → World → Prop) (h : S43_F44 a1 b2 w R PR) : C43 a1 b2 (.func (.func 44) #[] #[]) w R PR := by
  have e : fnT Try.prog ⟨FF, MAY, PR⟩ pl43_F44 Try.f43 [Slc.v a1, Slc.v b2, .func (.func 44) #[] #[]] w [(.one .slc)] (fun s w => R s w) = S43_F44 a1 b2 w R PR := by kernel_rfl
  exact (fn_callsP okF okM Try.func43 (by kernel_rfl) (by kernel_rfl) (e.mpr h)).mono fun _ _ he => he.elim (fun ⟨s, he, hR⟩ => .inl ⟨s, he, hR⟩) .inr

/-- foliant/code.merged -/
def S33 (a1 : Slc) (b2 : Slc) (w : World) (R : Slc → World → Prop) (PR : Value → World → Prop) : Prop :=
  C43 a1 b2 (.func (.func 44) #[] #[]) w (fun r3 vw4 =>
    R r3 vw4) PR
def pl33 : Plan := (.seq (.reg .seq) (.seq (.reg .seq) .leaf))
set_option maxRecDepth 100000 in
theorem T33 (a1 : Slc) (b2 : Slc) (w : World) (R : Slc → World → Prop) (PR : Value → World → Prop) (h : S33 a1 b2 w R PR) : C33 a1 b2 w R PR := by
  have e : fnT Try.prog ⟨FF, MAY, PR⟩ pl33 Try.f33 [Slc.v a1, Slc.v b2] w [(.one .slc)] (fun s w => R s w) = S33 a1 b2 w R PR := by kernel_rfl
  exact (fn_callsP okF okM Try.func33 (by kernel_rfl) (by kernel_rfl) (e.mpr h)).mono fun _ _ he => he.elim (fun ⟨s, he, hR⟩ => .inl ⟨s, he, hR⟩) .inr

def S34L1 (l1 : Slc) (R : Slc → World → Prop) (I4 : (Slc × Int) → World → Prop) (s2 : Slc × Int) (vw3 : World) : Prop :=
  Br (decide ((IntKind.i64.wrap (s2.2 + 1)) < ((l1.len : Nat) : Int))) (∃ vS5 : World → Prop, vS5 vw3.drew ∧ 0 ≤ s2.2 ∧ s2.2 < (l1.len : Nat) ∧ Nn l1.p fun a6 =>
    LdS vS5 (a6.add ((s2.2).toNat * 1)) Value.pointer fun (x7 : Option Addr) =>
    Nn x7 fun a8 =>
    LdS vS5 a8 (Value.int .i64) fun (x9 : Int) =>
    0 ≤ (IntKind.i64.wrap (s2.2 + 1)) ∧ (IntKind.i64.wrap (s2.2 + 1)) < (l1.len : Nat) ∧ Nn l1.p fun a10 =>
    LdS vS5 (a10.add ((IntKind.i64.wrap (s2.2 + 1)).toNat * 1)) Value.pointer fun (x11 : Option Addr) =>
    Nn x11 fun a12 =>
    LdS vS5 a12 (Value.int .i64) fun (x13 : Int) =>
    0 ≤ s2.2 ∧ s2.2 < (l1.len : Nat) ∧ Nn l1.p fun a14 =>
    LdS vS5 (a14.add ((s2.2).toNat * 1)) Value.pointer fun (x15 : Option Addr) =>
    0 ≤ (IntKind.i64.wrap (s2.2 + 1)) ∧ (IntKind.i64.wrap (s2.2 + 1)) < (l1.len : Nat) ∧ Nn l1.p fun a16 =>
    LdS vS5 (a16.add ((IntKind.i64.wrap (s2.2 + 1)).toNat * 1)) Value.pointer fun (x17 : Option Addr) =>
    Nw vw3.drew (.cells #[.int .i64 (IntKind.i64.wrap (x9 + x13)), .int .i64 0, .pointer x15, .pointer x17] 62) fun vw18 =>
    Nw vw18 (.cells #[.pointer (some (⟨vw3.drew.heap.size, 0, none⟩ : Addr))] 60) fun vw19 =>
    Rn Try.prog (Builtin.append_ #[59, 59] 59 #[Slc.v s2.1, Slc.v ((⟨some ⟨vw18.heap.size, 0, none⟩, 1, 1⟩ : Slc))]) vw19 Slc.v fun (x20 : Slc) vw21 =>
    I4 (x20, IntKind.i64.wrap (s2.2 + 2)) vw21) (R s2.1 vw3)
/-- foliant/code.pairs -/
def S34 (l1 : Slc) (w : World) (R : Slc → World → Prop) : Prop :=
  Lp (σ := Slc × Int) (S34L1 l1 R) ((⟨none, 0, 0⟩ : Slc), 0) w
def pl34 : Plan := (.seq (.reg .seq) (.seq (.reg .seq) (.seq (.seq (.reg .seq) (.block (.loop [(3, (.one .slc)), (4, (.one (.int .i64)))] [0] (.seq (.seq (.reg .seq) (.cond .leaf .leaf)) (.seq (.block (.reg (.held [26] (.take 0 (.take 1 (.take 2 (.take 3 (.take 4 (.take 5 (.take 6 (.take 7 (.take 8 (.take 9 (.take 10 (.take 11 (.take 12 (.take 13 (.take 14 (.take 15 (.take 16 (.take 17 (.take 18 (.take 19 (.take 20 (.take 21 (.take 22 (.take 23 (.take 24 (.take 25 (.eff 26 (some [27]) (.eff 27 (some [28]) (.eff 28 (some [29]) (.eff 29 (some []) (.take 30 .done)))))))))))))))))))))))))))))))))) (.reg .seq)))))) (.seq (.reg .seq) .leaf))))
set_option maxRecDepth 100000 in
theorem T34 (l1 : Slc) (w : World) (R : Slc → World → Prop) (h : S34 l1 w R) : C34 l1 w R := by
  have e : fnT Try.prog ⟨FF, MAY, (fun _ _ => False)⟩ pl34 Try.f34 [Slc.v l1] w [(.one .slc)] (fun s w => R s w) = S34 l1 w R := by kernel_rfl
  exact (fn_calls okF okM Try.func34 (by kernel_rfl) (by kernel_rfl) (e.mpr h)).mono fun _ _ ⟨s, he, hR⟩ => ⟨s, he, hR⟩

/-- foliant/code.Lengths$1 -/
def S36 (sign1 : Int) (c2 : Addr) (w : World) (R : World → Prop) : Prop :=
  Ld w c2 Slc.v fun (x3 : Slc) =>
  0 ≤ sign1 ∧ sign1 < (x3.len : Nat) ∧ Nn x3.p fun a4 =>
  Ld w (a4.add ((sign1).toNat * 1)) (Value.int .i64) fun (x5 : Int) =>
  0 ≤ sign1 ∧ sign1 < (x3.len : Nat) ∧ Nn x3.p fun a6 =>
  St w (a6.add ((sign1).toNat * 1)) (.int .i64 (IntKind.i64.wrap (x5 + 1))) fun vw7 =>
  R vw7
def pl36 : Plan := (.reg .seq)
set_option maxRecDepth 100000 in
theorem T36 (sign1 : Int) (c2 : Addr) (w : World) (R : World → Prop) (h : S36 sign1 c2 w R) : C36 sign1 c2 w R := by
  have e : fnT Try.prog ⟨FF, MAY, (fun _ _ => False)⟩ pl36 Try.f36 [.int .i64 sign1, .pointer (some c2)] w [] (fun _ w => R w) = S36 sign1 c2 w R := by kernel_rfl
  exact (fn_calls okF okM Try.func36 (by kernel_rfl) (by kernel_rfl) (e.mpr h)).mono fun _ _ ⟨_, he, hR⟩ => ⟨he, hR⟩

/-- (*foliant/code.coin).each -/
def S35_F36 (c1 : Option Addr) (c3 : Addr) (w : World) (R : World → Prop) : Prop :=
  Nn c1 fun a9 =>
  Ld w (a9.add 2) Value.pointer fun (x10 : Option Addr) =>
  Br x10.isNone (Nn c1 fun a11 =>
    Ld w (a11.add 1) (Value.int .i64) fun (x12 : Int) =>
    C36 x12 c3 w fun vw13 =>
      R vw13) (Nn c1 fun a14 =>
    Ld w (a14.add 2) Value.pointer fun (x15 : Option Addr) =>
    C35 x15 (.func (.func 36) #[] #[.pointer (some c3)]) w fun vw16 =>
      Nn c1 fun a17 =>
      Ld vw16 (a17.add 3) Value.pointer fun (x18 : Option Addr) =>
      C35 x18 (.func (.func 36) #[] #[.pointer (some c3)]) vw16 fun vw19 =>
        R vw19)
def pl35_F36 : Plan := (.seq (.seq (.reg .seq) (.cond (.seq (.reg .seq) .leaf) .leaf)) (.seq (.reg .seq) (.reg .seq)))
set_option maxRecDepth 100000 in
theorem T35_F36 (c1 : Option Addr) (c3 : Addr) (w : World) (R : World → Prop) (h : S35_F36 c1 c3 w R) : C35 c1 (.func (.func 36) #[] #[.pointer (some c3)]) w R := by
  have e : fnT Try.prog ⟨FF, MAY, (fun _ _ => False)⟩ pl35_F36 Try.f35 [.pointer c1, .func (.func 36) #[] #[.pointer (some c3)]] w [] (fun _ w => R w) = S35_F36 c1 c3 w R := by kernel_rfl
  exact (fn_calls okF okM Try.func35 (by kernel_rfl) (by kernel_rfl) (e.mpr h)).mono fun _ _ ⟨_, he, hR⟩ => ⟨he, hR⟩

def S17L1 (vw22 : World) (r36 : Slc) (s45 : Slc × Int) (x52 : Int) (R : Slc → Int → World → Prop) (I55 : Int → World → Prop) (s53 : Int) (vw54 : World) : Prop :=
  Br (decide (s53 < x52)) (0 ≤ s53 ∧ s53 < ((s45.1.cut 1 0 ((IntKind.i64.wrap ((IntKind.i64.wrap (2 * ((r36.len : Nat) : Int))) - 2)).toNat) s45.1.cap).len : Nat) ∧ Nn (s45.1.cut 1 0 ((IntKind.i64.wrap ((IntKind.i64.wrap (2 * ((r36.len : Nat) : Int))) - 2)).toNat) s45.1.cap).p fun a56 =>
    Ld vw54 (a56.add ((s53).toNat * 1)) Value.pointer fun (x57 : Option Addr) =>
    C35 x57 (.func (.func 36) #[] #[.pointer (some (⟨vw22.heap.size, 0, none⟩ : Addr))]) vw54 fun vw58 =>
      I55 (IntKind.i64.wrap (s53 + 1)) vw58) (Ld vw54 (⟨vw22.heap.size, 0, none⟩ : Addr) Slc.v fun (x59 : Slc) =>
    R x59 0 vw54)
def S17L2 (most2 : Int) (vw22 : World) (r36 : Slc) (R : Slc → Int → World → Prop) (PR : Value → World → Prop) (I47 : (Slc × Int) → World → Prop) (s45 : Slc × Int) (vw46 : World) : Prop :=
  Br (decide (s45.2 < (IntKind.i64.wrap (most2 - 1)))) (C34 s45.1 vw46 fun r48 vw49 =>
      C33 r36 r48 vw49 (fun r50 vw51 =>
        I47 (r50, IntKind.i64.wrap (s45.2 + 1)) vw51) PR) (0 ≤ (IntKind.i64.wrap ((IntKind.i64.wrap (2 * ((r36.len : Nat) : Int))) - 2)) ∧ (IntKind.i64.wrap ((IntKind.i64.wrap (2 * ((r36.len : Nat) : Int))) - 2)) ≤ ((s45.1.cap : Nat) : Int) ∧ Lt ((((s45.1.cut 1 0 ((IntKind.i64.wrap ((IntKind.i64.wrap (2 * ((r36.len : Nat) : Int))) - 2)).toNat) s45.1.cap).len : Nat) : Int)) fun (x52 : Int) =>
    Lp (σ := Int) (S17L1 vw22 r36 s45 x52 R) 0 vw46)
def S17J1 (most2 : Int) (s12 : Slc × Int) (vw22 : World) (R : Slc → Int → World → Prop) (PR : Value → World → Prop) (s32 : Unit) (vw33 : World) : Prop :=
  Br (decide (((s12.1.len : Nat) : Int) < 2)) (Ld vw33 (⟨vw22.heap.size, 0, none⟩ : Addr) Slc.v fun (x35 : Slc) =>
    R x35 0 vw33) (C33 s12.1 (⟨none, 0, 0⟩ : Slc) vw33 (fun r36 vw37 =>
      Lp (σ := Slc × Int) (S17L2 most2 vw22 r36 R PR) (r36, 0) vw37) PR)
def S17L3 (counts1 : Slc) (most2 : Int) (R : Slc → Int → World → Prop) (PR : Value → World → Prop) (I14 : (Slc × Int) → World → Prop) (s12 : Slc × Int) (vw13 : World) : Prop :=
  Br (decide (s12.2 < ((counts1.len : Nat) : Int))) (0 ≤ s12.2 ∧ s12.2 < (counts1.len : Nat) ∧ Nn counts1.p fun a15 =>
    Ld vw13 (a15.add ((s12.2).toNat * 1)) (Value.int .i64) fun (x16 : Int) =>
    Br (decide (x16 < 0)) (R (⟨none, 0, 0⟩ : Slc) 1 vw13) (Br (decide (x16 > 2147483647)) (R (⟨none, 0, 0⟩ : Slc) 1 vw13) (Br (decide (x16 > 0)) (Nw vw13 (.cells #[.int .i64 x16, .int .i64 (s12.2), .pointer none, .pointer none] 62) fun vw17 =>
          Nw vw17 (.cells #[.pointer (some (⟨vw13.heap.size, 0, none⟩ : Addr))] 60) fun vw18 =>
          Rn Try.prog (Builtin.append_ #[59, 59] 59 #[Slc.v s12.1, Slc.v ((⟨some ⟨vw17.heap.size, 0, none⟩, 1, 1⟩ : Slc))]) vw18 Slc.v fun (x19 : Slc) vw20 =>
          I14 (x19, IntKind.i64.wrap (s12.2 + 1)) vw20) (I14 (s12.1, IntKind.i64.wrap (s12.2 + 1)) vw13)))) (0 ≤ most2 ∧ Br (decide (((s12.1.len : Nat) : Int) > (IntKind.i64.wrap (1 * 2 ^ (min (most2).toNat 64))))) (R (⟨none, 0, 0⟩ : Slc) 13 vw13) (Rn Try.prog (Instr.makeSlice 22 (.int .i64 ((counts1.len : Nat) : Int)) (.int .i64 ((counts1.len : Nat) : Int))) vw13 Slc.v fun (x21 : Slc) vw22 =>
      Nw vw22 (.cells #[Slc.v ((⟨none, 0, 0⟩ : Slc))] 22) fun vw23 =>
      St vw23 (⟨vw22.heap.size, 0, none⟩ : Addr) (Slc.v x21) fun vw24 =>
      Join (S17J1 most2 s12 vw22 R PR) fun (vJ60 : Unit → World → Prop) =>
        Br (((s12.1.len : Nat) : Int) == 1) (Ld vw24.drew (⟨vw22.heap.size, 0, none⟩ : Addr) Slc.v fun (x61 : Slc) =>
          0 ≤ (0 : Int) ∧ (0 : Int) < (s12.1.len : Nat) ∧ Nn s12.1.p fun a62 =>
          Ld vw24.drew (a62.add (((0 : Int)).toNat * 1)) Value.pointer fun (x63 : Option Addr) =>
          Nn x63 fun a64 =>
          Ld vw24.drew (a64.add 1) (Value.int .i64) fun (x65 : Int) =>
          0 ≤ x65 ∧ x65 < (x61.len : Nat) ∧ Nn x61.p fun a66 =>
          St vw24.drew (a66.add ((x65).toNat * 1)) (.int .i64 1) fun vw67 =>
          vJ60 () vw67) (vJ60 () vw24)))
/-- foliant/code.Lengths -/
def S17 (counts1 : Slc) (most2 : Int) (w : World) (R : Slc → Int → World → Prop) (PR : Value → World → Prop) : Prop :=
  Br (decide (((counts1.len : Nat) : Int) > 288)) (R (⟨none, 0, 0⟩ : Slc) 6 w) (Br (decide (most2 < 1)) (R (⟨none, 0, 0⟩ : Slc) 1 w) (Br (decide (most2 > 15)) (R (⟨none, 0, 0⟩ : Slc) 1 w) (Lp (σ := Slc × Int) (S17L3 counts1 most2 R PR) ((⟨none, 0, 0⟩ : Slc), 0) w)))
def pl17 : Plan := (.seq (.reg .seq) (.seq (.seq (.reg .seq) (.cond (.seq (.reg .seq) .leaf) .leaf)) (.seq (.seq (.reg .seq) (.cond (.seq (.reg .seq) .leaf) .leaf)) (.seq (.reg .seq) (.seq (.seq (.reg .seq) (.block (.loop [(6, (.one .slc)), (24, (.one (.int .i64)))] [0, 1, 22, 23] (.seq (.reg .seq) (.seq (.cond .leaf .leaf) (.seq (.block (.seq (.reg .seq) (.seq (.seq (.reg .seq) (.cond (.seq (.reg .seq) .leaf) .leaf)) (.seq (.reg .seq) (.cond (.reg .seq) .leaf))))) (.reg .seq))))))) (.seq (.seq (.reg .seq) (.cond (.seq (.reg .seq) .leaf) .leaf)) (.seq (.reg .seq) (.join [] [1, 6, 9] (.seq (.reg .seq) (.cond (.reg (.tail 8)) .leaf)) (.seq (.seq (.reg .seq) (.cond (.seq (.reg .seq) .leaf) .leaf)) (.seq (.reg .seq) (.seq (.reg .seq) (.seq (.seq (.reg .seq) (.block (.loop [(10, (.one .slc)), (73, (.one (.int .i64)))] [6, 9, 72] (.seq (.reg .seq) (.seq (.cond .leaf .leaf) (.seq (.block (.reg .seq)) (.reg .seq))))))) (.seq (.seq (.reg .seq) (.block (.loop [(87, (.one (.int .i64)))] [9, 85, 86] (.seq (.reg .seq) (.seq (.cond .leaf .leaf) (.seq (.block (.seq (.reg .seq) (.reg .seq))) (.reg .seq))))))) (.seq (.reg .seq) .leaf))))))))))))))
set_option maxRecDepth 100000 in
theorem T17 (counts1 : Slc) (most2 : Int) (w : World) (R : Slc → Int → World → Prop) (PR : Value → World → Prop) (h : S17 counts1 most2 w R PR) : C17 counts1 most2 w R PR := by
  have e : fnT Try.prog ⟨FF, MAY, PR⟩ pl17 Try.f17 [Slc.v counts1, .int .i64 most2] w [(.one .slc), (.one (.int .i64))] (fun s w => R s.1 s.2 w) = S17 counts1 most2 w R PR := by kernel_rfl
  exact (fn_callsP okF okM Try.func17 (by kernel_rfl) (by kernel_rfl) (e.mpr h)).mono fun _ _ he => he.elim (fun ⟨s, he, hR⟩ => .inl ⟨s.1, s.2, he, hR⟩) .inr

end Go.Proofs.Ytapgacggllbhiaa
