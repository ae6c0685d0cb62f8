/- The formulas of 13 functions of the program, written by program (gen.py); the kernel checks each. No condition. -/
import Derived.Test.YtpkadliieplblaaDoorFn
import Derived.Test.YtpkadliieplblaaDoorFnFix
import Derived.Test.YtpkadliieplblaaDoorFnOct
import Derived.Test.YtpkadliieplblaaDoorFnBu
import Derived.Test.YtpkadliieplblaaDoorFnLex
import Derived.Test.YtpkadliieplblaaDoorFnTkY
import Derived.Test.YtpkadliieplblaaDoorFnAll
namespace Go.Proofs.YtpkadliieplblaaDoor
open Sh
set_option linter.unusedVariables false
set_option maxRecDepth 100000

def C18 (i1 : Int) (base2 : Int) (w : World) (R : ByteArray → World → Prop) (PR : Value → World → Prop) : Prop :=
  Calls Tryd.prog 18 #[.int .i64 i1, .int .i64 base2] w fun e w' => (∃ r0 : ByteArray, e = .returned (.string r0) ∧ R r0 w') ∨ ∃ v, e = .panicked (onePanic v) ∧ PR v w'
theorem C18.mono {i1 : Int} {base2 : Int} {w : World} {R R' : ByteArray → World → Prop} {PR PR' : Value → World → Prop} (h : C18 i1 base2 w R PR) (hr : ∀ r0 w', R r0 w' → R' r0 w') (hp : ∀ v w', PR v w' → PR' v w') : C18 i1 base2 w R' PR' :=
  Calls.mono h fun _ _ he => he.elim (fun ⟨r0, he, hR⟩ => .inl ⟨r0, he, hr _ _ hR⟩) fun ⟨v, he, hP⟩ => .inr ⟨v, he, hp _ _ hP⟩
def C8 (n1 : Int) (w : World) (R : ByteArray → Int → World → Prop) (PR : Value → World → Prop) : Prop :=
  Calls Tryd.prog 8 #[.int .i64 n1] w fun e w' => (∃ r0 : ByteArray, ∃ r1 : Int, e = .returned (.tuple #[.string r0, .int .i64 r1]) ∧ R r0 r1 w') ∨ ∃ v, e = .panicked (onePanic v) ∧ PR v w'
theorem C8.mono {n1 : Int} {w : World} {R R' : ByteArray → Int → World → Prop} {PR PR' : Value → World → Prop} (h : C8 n1 w R PR) (hr : ∀ r0 r1 w', R r0 r1 w' → R' r0 r1 w') (hp : ∀ v w', PR v w' → PR' v w') : C8 n1 w R' PR' :=
  Calls.mono h fun _ _ he => he.elim (fun ⟨r0, r1, he, hR⟩ => .inl ⟨r0, r1, he, hr _ _ _ hR⟩) fun ⟨v, he, hP⟩ => .inr ⟨v, he, hp _ _ hP⟩
def C20 (b1 : Option Addr) (c2 : Int) (w : World) (R : World → Prop) : Prop :=
  Calls Tryd.prog 20 #[.pointer b1, .int .u8 c2] w fun e w' => e = .returned (.tuple #[]) ∧ R w'
theorem C20.mono {b1 : Option Addr} {c2 : Int} {w : World} {R R' : World → Prop} (h : C20 b1 c2 w R) (hr : ∀ w', R w' → R' w') : C20 b1 c2 w R' :=
  Calls.mono h fun _ _ ⟨he, hR⟩ => ⟨he, hr _ hR⟩
def C23 (b1 : Option Addr) (c2 : Int) (w : World) (R : World → Prop) : Prop :=
  Calls Tryd.prog 23 #[.pointer b1, .int .u8 c2] w fun e w' => e = .returned (.tuple #[]) ∧ R w'
theorem C23.mono {b1 : Option Addr} {c2 : Int} {w : World} {R R' : World → Prop} (h : C23 b1 c2 w R) (hr : ∀ w', R w' → R' w') : C23 b1 c2 w R' :=
  Calls.mono h fun _ _ ⟨he, hR⟩ => ⟨he, hr _ hR⟩
def C38 (b1 : Option Addr) (n2 : Int) (w : World) (R : World → Prop) (PR : Value → World → Prop) : Prop :=
  Calls Tryd.prog 38 #[.pointer b1, .int .i64 n2] w fun e w' => (e = .returned (.tuple #[]) ∧ R w') ∨ ∃ v, e = .panicked (onePanic v) ∧ PR v w'
theorem C38.mono {b1 : Option Addr} {n2 : Int} {w : World} {R R' : World → Prop} {PR PR' : Value → World → Prop} (h : C38 b1 n2 w R PR) (hr : ∀ w', R w' → R' w') (hp : ∀ v w', PR v w' → PR' v w') : C38 b1 n2 w R' PR' :=
  Calls.mono h fun _ _ he => he.elim (fun ⟨he, hR⟩ => .inl ⟨he, hr _ hR⟩) fun ⟨v, he, hP⟩ => .inr ⟨v, he, hp _ _ hP⟩
def C19 (vopen1 : ByteArray) (s2 : ByteArray) (vend3 : ByteArray) (each4 : Value) (w : World) (R : ByteArray → World → Prop) (PR : Value → World → Prop) : Prop :=
  Calls Tryd.prog 19 #[.string vopen1, .string s2, .string vend3, each4] w fun e w' => (∃ r0 : ByteArray, e = .returned (.string r0) ∧ R r0 w') ∨ ∃ v, e = .panicked (onePanic v) ∧ PR v w'
theorem C19.mono {vopen1 : ByteArray} {s2 : ByteArray} {vend3 : ByteArray} {each4 : Value} {w : World} {R R' : ByteArray → World → Prop} {PR PR' : Value → World → Prop} (h : C19 vopen1 s2 vend3 each4 w R PR) (hr : ∀ r0 w', R r0 w' → R' r0 w') (hp : ∀ v w', PR v w' → PR' v w') : C19 vopen1 s2 vend3 each4 w R' PR' :=
  Calls.mono h fun _ _ he => he.elim (fun ⟨r0, he, hR⟩ => .inl ⟨r0, he, hr _ _ hR⟩) fun ⟨v, he, hP⟩ => .inr ⟨v, he, hp _ _ hP⟩
def C9 (s1 : ByteArray) (w : World) (R : ByteArray → Int → World → Prop) (PR : Value → World → Prop) : Prop :=
  Calls Tryd.prog 9 #[.string s1] w fun e w' => (∃ r0 : ByteArray, ∃ r1 : Int, e = .returned (.tuple #[.string r0, .int .i64 r1]) ∧ R r0 r1 w') ∨ ∃ v, e = .panicked (onePanic v) ∧ PR v w'
theorem C9.mono {s1 : ByteArray} {w : World} {R R' : ByteArray → Int → World → Prop} {PR PR' : Value → World → Prop} (h : C9 s1 w R PR) (hr : ∀ r0 r1 w', R r0 r1 w' → R' r0 r1 w') (hp : ∀ v w', PR v w' → PR' v w') : C9 s1 w R' PR' :=
  Calls.mono h fun _ _ he => he.elim (fun ⟨r0, r1, he, hR⟩ => .inl ⟨r0, r1, he, hr _ _ _ hR⟩) fun ⟨v, he, hP⟩ => .inr ⟨v, he, hp _ _ hP⟩
def C10 (s1 : ByteArray) (w : World) (R : ByteArray → Int → World → Prop) (PR : Value → World → Prop) : Prop :=
  Calls Tryd.prog 10 #[.string s1] w fun e w' => (∃ r0 : ByteArray, ∃ r1 : Int, e = .returned (.tuple #[.string r0, .int .i64 r1]) ∧ R r0 r1 w') ∨ ∃ v, e = .panicked (onePanic v) ∧ PR v w'
theorem C10.mono {s1 : ByteArray} {w : World} {R R' : ByteArray → Int → World → Prop} {PR PR' : Value → World → Prop} (h : C10 s1 w R PR) (hr : ∀ r0 r1 w', R r0 r1 w' → R' r0 r1 w') (hp : ∀ v w', PR v w' → PR' v w') : C10 s1 w R' PR' :=
  Calls.mono h fun _ _ he => he.elim (fun ⟨r0, r1, he, hR⟩ => .inl ⟨r0, r1, he, hr _ _ _ hR⟩) fun ⟨v, he, hP⟩ => .inr ⟨v, he, hp _ _ hP⟩
def C11 (s1 : ByteArray) (w : World) (R : ByteArray → Int → World → Prop) : Prop :=
  Calls Tryd.prog 11 #[.string s1] w fun e w' => ∃ r0 : ByteArray, ∃ r1 : Int, e = .returned (.tuple #[.string r0, .int .i64 r1]) ∧ R r0 r1 w'
theorem C11.mono {s1 : ByteArray} {w : World} {R R' : ByteArray → Int → World → Prop} (h : C11 s1 w R) (hr : ∀ r0 r1 w', R r0 r1 w' → R' r0 r1 w') : C11 s1 w R' :=
  Calls.mono h fun _ _ ⟨r0, r1, he, hR⟩ => ⟨r0, r1, he, hr _ _ _ hR⟩
def C13 (parts1 : Slc) (w : World) (R : ByteArray → World → Prop) : Prop :=
  Calls Tryd.prog 13 #[Slc.v parts1] w fun e w' => ∃ r0 : ByteArray, e = .returned (.string r0) ∧ R r0 w'
theorem C13.mono {parts1 : Slc} {w : World} {R R' : ByteArray → World → Prop} (h : C13 parts1 w R) (hr : ∀ r0 w', R r0 w' → R' r0 w') : C13 parts1 w R' :=
  Calls.mono h fun _ _ ⟨r0, he, hR⟩ => ⟨r0, he, hr _ _ hR⟩
def C27 (s1 : ByteArray) (substr2 : ByteArray) (w : World) (R : Int → World → Prop) : Prop :=
  Calls Tryd.prog 27 #[.string s1, .string substr2] w fun e w' => ∃ r0 : Int, e = .returned (.int .i64 r0) ∧ R r0 w'
theorem C27.mono {s1 : ByteArray} {substr2 : ByteArray} {w : World} {R R' : Int → World → Prop} (h : C27 s1 substr2 w R) (hr : ∀ r0 w', R r0 w' → R' r0 w') : C27 s1 substr2 w R' :=
  Calls.mono h fun _ _ ⟨r0, he, hR⟩ => ⟨r0, he, hr _ _ hR⟩
def C12 (s1 : ByteArray) (part2 : ByteArray) (vfrom3 : Int) (w : World) (R : Int → World → Prop) : Prop :=
  Calls Tryd.prog 12 #[.string s1, .string part2, .int .i64 vfrom3] w fun e w' => ∃ r0 : Int, e = .returned (.int .i64 r0) ∧ R r0 w'
theorem C12.mono {s1 : ByteArray} {part2 : ByteArray} {vfrom3 : Int} {w : World} {R R' : Int → World → Prop} (h : C12 s1 part2 vfrom3 w R) (hr : ∀ r0 w', R r0 w' → R' r0 w') : C12 s1 part2 vfrom3 w R' :=
  Calls.mono h fun _ _ ⟨r0, he, hR⟩ => ⟨r0, he, hr _ _ hR⟩
def C4 (n1 : Int) (units2 : Int) (s3 : ByteArray) (name4 : ByteArray) (w : World) (R : Bool → World → Prop) (PR : Value → World → Prop) : Prop :=
  Calls Tryd.prog 4 #[.int .i64 n1, .int .i64 units2, .string s3, .string name4] w fun e w' => (∃ r0 : Bool, e = .returned (.bool r0) ∧ R r0 w') ∨ ∃ v, e = .panicked (onePanic v) ∧ PR v w'
theorem C4.mono {n1 : Int} {units2 : Int} {s3 : ByteArray} {name4 : ByteArray} {w : World} {R R' : Bool → World → Prop} {PR PR' : Value → World → Prop} (h : C4 n1 units2 s3 name4 w R PR) (hr : ∀ r0 w', R r0 w' → R' r0 w') (hp : ∀ v w', PR v w' → PR' v w') : C4 n1 units2 s3 name4 w R' PR' :=
  Calls.mono h fun _ _ he => he.elim (fun ⟨r0, he, hR⟩ => .inl ⟨r0, he, hr _ _ hR⟩) fun ⟨v, he, hP⟩ => .inr ⟨v, he, hp _ _ hP⟩



/-- foliant/plain.Int -/
def S8 (n1 : Int) (w : World) (R : ByteArray → Int → World → Prop) (PR : Value → World → Prop) : Prop :=
  Br (decide (n1 < (-2147483647))) (R (⟨#[]⟩ : ByteArray) 2 w) (Br (decide (n1 > 2147483647)) (R (⟨#[]⟩ : ByteArray) 2 w) (C18 n1 10 w (fun r2 vw3 =>
        R r2 0 vw3) PR))
def pl8 : Plan := (.seq (.reg .seq) (.seq (.seq (.reg .seq) (.cond (.seq (.reg .seq) .leaf) .leaf)) (.seq (.reg .seq) .leaf)))
set_option maxRecDepth 100000 in
theorem T8 (n1 : Int) (w : World) (R : ByteArray → Int → World → Prop) (PR : Value → World → Prop) (h : S8 n1 w R PR) : C8 n1 w R PR := by
  have e : fnT Tryd.prog ⟨FF, MAY, PR⟩ pl8 Tryd.f8 [.int .i64 n1] w [(.one .str), (.one (.int .i64))] (fun s w => R s.1 s.2 w) = S8 n1 w R PR := by kernel_rfl
  exact (fn_callsP okF okM Tryd.func8 (by kernel_rfl) (by kernel_rfl) (e.mpr h)).mono fun _ _ he => he.elim (fun ⟨s, he, hR⟩ => .inl ⟨s.1, s.2, he, hR⟩) .inr

def S20L1 (b1 : Option Addr) (c2 : Int) (R : World → Prop) (I19 : Int → World → Prop) (s17 : Int) (vw18 : World) : Prop :=
  Br (decide (s17 < 3)) (0 ≤ s17 ∧ s17 < (3 : Nat) ∧ ∃ x20 : Int, (#[.int .u8 64, .int .u8 8, .int .u8 1] : Array Value)[(s17).toNat * 1]? = some (.int .u8 x20) ∧ x20 ≠ 0 ∧ C21 b1 (IntKind.u8.wrap (48 + (Int.tmod (IntKind.u8.wrap (Int.tdiv c2 x20)) 8))) vw18 fun r21 vw22 =>
      I19 (IntKind.i64.wrap (s17 + 1)) vw22) (R vw18)
def S20L2 (b1 : Option Addr) (c2 : Int) (R : World → Prop) (I27 : Int → World → Prop) (s25 : Int) (vw26 : World) : Prop :=
  Br (decide (s25 < 3)) (0 ≤ s25 ∧ s25 < (3 : Nat) ∧ ∃ x28 : Int, (#[.int .u8 64, .int .u8 8, .int .u8 1] : Array Value)[(s25).toNat * 1]? = some (.int .u8 x28) ∧ x28 ≠ 0 ∧ C21 b1 (IntKind.u8.wrap (48 + (Int.tmod (IntKind.u8.wrap (Int.tdiv c2 x28)) 8))) vw26 fun r29 vw30 =>
      I27 (IntKind.i64.wrap (s25 + 1)) vw30) (R vw26)
/-- foliant/plain.String$1 -/
def S20 (b1 : Option Addr) (c2 : Int) (w : World) (R : World → Prop) : Prop :=
  Br (c2 == 40) (C21 b1 92 w fun r3 vw4 =>
      C21 b1 c2 vw4 fun r5 vw6 =>
        R vw6) (Br (c2 == 41) (C21 b1 92 w fun r7 vw8 =>
        C21 b1 c2 vw8 fun r9 vw10 =>
          R vw10) (Br (c2 == 92) (C21 b1 92 w fun r11 vw12 =>
          C21 b1 c2 vw12 fun r13 vw14 =>
            R vw14) (Br (decide (c2 < 32)) (C21 b1 92 w fun r15 vw16 =>
            Lp (σ := Int) (S20L1 b1 c2 R) 0 vw16) (Br (decide (c2 > 126)) (C21 b1 92 w fun r23 vw24 =>
              Lp (σ := Int) (S20L2 b1 c2 R) 0 vw24) (C21 b1 c2 w fun r31 vw32 =>
              R vw32)))))
def pl20 : Plan := (.block (.seq (.reg .seq) (.cond (.seq (.reg .seq) (.reg .seq)) (.seq (.reg .seq) (.cond (.seq (.reg .seq) (.seq (.reg .seq) (.block (.loop [(35, (.one (.int .i64)))] [0, 1, 34] (.seq (.reg .seq) (.seq (.cond .leaf .leaf) (.seq (.block (.seq (.reg .seq) (.reg .seq))) (.reg .seq)))))))) (.reg .seq))))))
set_option maxRecDepth 100000 in
theorem T20 (b1 : Option Addr) (c2 : Int) (w : World) (R : World → Prop) (h : S20 b1 c2 w R) : C20 b1 c2 w R := by
  have e : fnT Tryd.prog ⟨FF, MAY, (fun _ _ => False)⟩ pl20 Tryd.f20 [.pointer b1, .int .u8 c2] w [] (fun _ w => R w) = S20 b1 c2 w R := by kernel_rfl
  exact (fn_calls okF okM Tryd.func20 (by kernel_rfl) (by kernel_rfl) (e.mpr h)).mono fun _ _ ⟨_, he, hR⟩ => ⟨he, hR⟩

/-- foliant/plain.Name$1 -/
def S23 (b1 : Option Addr) (c2 : Int) (w : World) (R : World → Prop) : Prop :=
  Br (decide (c2 > 32)) (Br (decide (c2 ≤ 126)) (Br (c2 != 35) (C24 c2 w fun r7 vw8 =>
          Br (!r7) (C21 b1 c2 vw8 fun r9 vw10 =>
              R vw10) (Nw vw8 (.cells #[.int .u8 c2] 5) fun vw11 =>
            Rn Tryd.prog (convert 56 9 (Slc.v ((⟨some ⟨vw8.heap.size, 0, none⟩, 1, 1⟩ : Slc)))) vw11 Value.string fun (x12 : ByteArray) vw13 =>
            C26 x12 vw13 fun r14 vw15 =>
              ((((⟨#[35]⟩ : ByteArray)).size + (r14).size : Nat) : Int) ≤ IntKind.i64.max ∧ C25 b1 ((⟨#[35]⟩ : ByteArray) ++ r14) vw15 fun r16 r17 vw18 =>
                R vw18)) (Nw w (.cells #[.int .u8 c2] 5) fun vw19 =>
        Rn Tryd.prog (convert 56 9 (Slc.v ((⟨some ⟨w.heap.size, 0, none⟩, 1, 1⟩ : Slc)))) vw19 Value.string fun (x20 : ByteArray) vw21 =>
        C26 x20 vw21 fun r22 vw23 =>
          ((((⟨#[35]⟩ : ByteArray)).size + (r22).size : Nat) : Int) ≤ IntKind.i64.max ∧ C25 b1 ((⟨#[35]⟩ : ByteArray) ++ r22) vw23 fun r24 r25 vw26 =>
            R vw26)) (Nw w (.cells #[.int .u8 c2] 5) fun vw27 =>
      Rn Tryd.prog (convert 56 9 (Slc.v ((⟨some ⟨w.heap.size, 0, none⟩, 1, 1⟩ : Slc)))) vw27 Value.string fun (x28 : ByteArray) vw29 =>
      C26 x28 vw29 fun r30 vw31 =>
        ((((⟨#[35]⟩ : ByteArray)).size + (r30).size : Nat) : Int) ≤ IntKind.i64.max ∧ C25 b1 ((⟨#[35]⟩ : ByteArray) ++ r30) vw31 fun r32 r33 vw34 =>
          R vw34)) (Nw w (.cells #[.int .u8 c2] 5) fun vw35 =>
    Rn Tryd.prog (convert 56 9 (Slc.v ((⟨some ⟨w.heap.size, 0, none⟩, 1, 1⟩ : Slc)))) vw35 Value.string fun (x36 : ByteArray) vw37 =>
    C26 x36 vw37 fun r38 vw39 =>
      ((((⟨#[35]⟩ : ByteArray)).size + (r38).size : Nat) : Int) ≤ IntKind.i64.max ∧ C25 b1 ((⟨#[35]⟩ : ByteArray) ++ r38) vw39 fun r40 r41 vw42 =>
        R vw42)
def pl23 : Plan := (.seq (.seq (.reg .seq) (.cond (.seq (.reg .seq) .leaf) .leaf)) (.reg .seq))
set_option maxRecDepth 100000 in
theorem T23 (b1 : Option Addr) (c2 : Int) (w : World) (R : World → Prop) (h : S23 b1 c2 w R) : C23 b1 c2 w R := by
  have e : fnT Tryd.prog ⟨FF, MAY, (fun _ _ => False)⟩ pl23 Tryd.f23 [.pointer b1, .int .u8 c2] w [] (fun _ w => R w) = S23 b1 c2 w R := by kernel_rfl
  exact (fn_calls okF okM Tryd.func23 (by kernel_rfl) (by kernel_rfl) (e.mpr h)).mono fun _ _ ⟨_, he, hR⟩ => ⟨he, hR⟩



def S19_F20L1 (w : World) (s2 : ByteArray) (vend3 : ByteArray) (R : ByteArray → World → Prop) (I17 : Int → World → Prop) (s15 : Int) (vw16 : World) : Prop :=
  Br (decide (s15 < (((s2).size : Nat) : Int))) (0 ≤ s15 ∧ s15 < ((s2).size : Nat) ∧ C20 (some (⟨w.heap.size, 0, none⟩ : Addr)) (bAt s2 s15) vw16 fun vw18 =>
      I17 (IntKind.i64.wrap (s15 + 1)) vw18) (C25 (some (⟨w.heap.size, 0, none⟩ : Addr)) vend3 vw16 fun r19 r20 vw21 =>
      C29 (some (⟨w.heap.size, 0, none⟩ : Addr)) vw21 fun r22 vw23 =>
        R r22 vw23)
/-- foliant/plain.write -/
def S19_F20 (vopen1 : ByteArray) (s2 : ByteArray) (vend3 : ByteArray) (w : World) (R : ByteArray → World → Prop) (PR : Value → World → Prop) : Prop :=
  Nw w (.cells #[.pointer none, Slc.v ((⟨none, 0, 0⟩ : Slc))] 60) fun vw5 =>
  Lt (IntKind.i64.wrap ((IntKind.i64.wrap ((((vopen1).size : Nat) : Int) + (((s2).size : Nat) : Int))) + (((vend3).size : Nat) : Int))) fun (x6 : Int) =>
  C38 (some (⟨w.heap.size, 0, none⟩ : Addr)) x6 vw5 (fun vw7 =>
    C25 (some (⟨w.heap.size, 0, none⟩ : Addr)) vopen1 vw7 fun r8 r9 vw10 =>
      Lp (σ := Int) (S19_F20L1 w s2 vend3 R) 0 vw10) PR
def pl19_F20 : Plan := (.seq (.reg .seq) (.seq (.reg .seq) (.seq (.reg .seq) (.seq (.reg .seq) (.seq (.seq (.reg .seq) (.block (.loop [(24, (.one (.int .i64)))] [1, 2, 3, 9, 23] (.seq (.reg .seq) (.seq (.cond .leaf .leaf) (.seq (.block (.seq (.reg .seq) (.reg .seq))) (.reg .seq))))))) (.seq (.reg .seq) (.seq (.reg .seq) .leaf)))))))
set_option maxRecDepth 100000 in
theorem T19_F20 (vopen1 : ByteArray) (s2 : ByteArray) (vend3 : ByteArray) (w : World) (R : ByteArray → World → Prop) (PR : Value → World → Prop) (h : S19_F20 vopen1 s2 vend3 w R PR) : C19 vopen1 s2 vend3 (.func (.func 20) #[] #[]) w R PR := by
  have e : fnT Tryd.prog ⟨FF, MAY, PR⟩ pl19_F20 Tryd.f19 [.string vopen1, .string s2, .string vend3, .func (.func 20) #[] #[]] w [(.one .str)] (fun s w => R s w) = S19_F20 vopen1 s2 vend3 w R PR := by kernel_rfl
  exact (fn_callsP okF okM Tryd.func19 (by kernel_rfl) (by kernel_rfl) (e.mpr h)).mono fun _ _ he => he.elim (fun ⟨s, he, hR⟩ => .inl ⟨s, he, hR⟩) .inr

def S19_F23L1 (w : World) (s2 : ByteArray) (vend3 : ByteArray) (R : ByteArray → World → Prop) (I17 : Int → World → Prop) (s15 : Int) (vw16 : World) : Prop :=
  Br (decide (s15 < (((s2).size : Nat) : Int))) (0 ≤ s15 ∧ s15 < ((s2).size : Nat) ∧ C23 (some (⟨w.heap.size, 0, none⟩ : Addr)) (bAt s2 s15) vw16 fun vw18 =>
      I17 (IntKind.i64.wrap (s15 + 1)) vw18) (C25 (some (⟨w.heap.size, 0, none⟩ : Addr)) vend3 vw16 fun r19 r20 vw21 =>
      C29 (some (⟨w.heap.size, 0, none⟩ : Addr)) vw21 fun r22 vw23 =>
        R r22 vw23)
/-- foliant/plain.write -/
def S19_F23 (vopen1 : ByteArray) (s2 : ByteArray) (vend3 : ByteArray) (w : World) (R : ByteArray → World → Prop) (PR : Value → World → Prop) : Prop :=
  Nw w (.cells #[.pointer none, Slc.v ((⟨none, 0, 0⟩ : Slc))] 60) fun vw5 =>
  Lt (IntKind.i64.wrap ((IntKind.i64.wrap ((((vopen1).size : Nat) : Int) + (((s2).size : Nat) : Int))) + (((vend3).size : Nat) : Int))) fun (x6 : Int) =>
  C38 (some (⟨w.heap.size, 0, none⟩ : Addr)) x6 vw5 (fun vw7 =>
    C25 (some (⟨w.heap.size, 0, none⟩ : Addr)) vopen1 vw7 fun r8 r9 vw10 =>
      Lp (σ := Int) (S19_F23L1 w s2 vend3 R) 0 vw10) PR
def pl19_F23 : Plan := (.seq (.reg .seq) (.seq (.reg .seq) (.seq (.reg .seq) (.seq (.reg .seq) (.seq (.seq (.reg .seq) (.block (.loop [(24, (.one (.int .i64)))] [1, 2, 3, 9, 23] (.seq (.reg .seq) (.seq (.cond .leaf .leaf) (.seq (.block (.seq (.reg .seq) (.reg .seq))) (.reg .seq))))))) (.seq (.reg .seq) (.seq (.reg .seq) .leaf)))))))
set_option maxRecDepth 100000 in
theorem T19_F23 (vopen1 : ByteArray) (s2 : ByteArray) (vend3 : ByteArray) (w : World) (R : ByteArray → World → Prop) (PR : Value → World → Prop) (h : S19_F23 vopen1 s2 vend3 w R PR) : C19 vopen1 s2 vend3 (.func (.func 23) #[] #[]) w R PR := by
  have e : fnT Tryd.prog ⟨FF, MAY, PR⟩ pl19_F23 Tryd.f19 [.string vopen1, .string s2, .string vend3, .func (.func 23) #[] #[]] w [(.one .str)] (fun s w => R s w) = S19_F23 vopen1 s2 vend3 w R PR := by kernel_rfl
  exact (fn_callsP okF okM Tryd.func19 (by kernel_rfl) (by kernel_rfl) (e.mpr h)).mono fun _ _ he => he.elim (fun ⟨s, he, hR⟩ => .inl ⟨s, he, hR⟩) .inr

/-- foliant/plain.String -/
def S9 (s1 : ByteArray) (w : World) (R : ByteArray → Int → World → Prop) (PR : Value → World → Prop) : Prop :=
  Br (decide ((((s1).size : Nat) : Int) > 32767)) (R (⟨#[]⟩ : ByteArray) 5 w) (C19 (⟨#[40]⟩ : ByteArray) s1 (⟨#[41]⟩ : ByteArray) (.func (.func 20) #[] #[]) w (fun r2 vw3 =>
      R r2 0 vw3) PR)
def pl9 : Plan := (.seq (.reg .seq) (.seq (.seq (.reg .seq) (.cond (.seq (.reg .seq) .leaf) .leaf)) (.seq (.reg .seq) .leaf)))
set_option maxRecDepth 100000 in
theorem T9 (s1 : ByteArray) (w : World) (R : ByteArray → Int → World → Prop) (PR : Value → World → Prop) (h : S9 s1 w R PR) : C9 s1 w R PR := by
  have e : fnT Tryd.prog ⟨FF, MAY, PR⟩ pl9 Tryd.f9 [.string s1] w [(.one .str), (.one (.int .i64))] (fun s w => R s.1 s.2 w) = S9 s1 w R PR := by kernel_rfl
  exact (fn_callsP okF okM Tryd.func9 (by kernel_rfl) (by kernel_rfl) (e.mpr h)).mono fun _ _ he => he.elim (fun ⟨s, he, hR⟩ => .inl ⟨s.1, s.2, he, hR⟩) .inr

/-- foliant/plain.Name -/
def S10 (s1 : ByteArray) (w : World) (R : ByteArray → Int → World → Prop) (PR : Value → World → Prop) : Prop :=
  Br (decide ((((s1).size : Nat) : Int) > 127)) (R (⟨#[]⟩ : ByteArray) 5 w) (C22 s1 0 w fun r2 vw3 =>
      Br (decide (r2 ≥ 0)) (R (⟨#[]⟩ : ByteArray) 3 vw3) (C19 (⟨#[47]⟩ : ByteArray) s1 (⟨#[]⟩ : ByteArray) (.func (.func 23) #[] #[]) vw3 (fun r4 vw5 =>
          R r4 0 vw5) PR))
def pl10 : Plan := (.seq (.reg .seq) (.seq (.block (.seq (.reg .seq) (.cond (.seq (.reg .seq) .leaf) (.seq (.reg .seq) (.cond (.seq (.reg .seq) .leaf) .leaf))))) (.seq (.reg .seq) .leaf)))
set_option maxRecDepth 100000 in
theorem T10 (s1 : ByteArray) (w : World) (R : ByteArray → Int → World → Prop) (PR : Value → World → Prop) (h : S10 s1 w R PR) : C10 s1 w R PR := by
  have e : fnT Tryd.prog ⟨FF, MAY, PR⟩ pl10 Tryd.f10 [.string s1] w [(.one .str), (.one (.int .i64))] (fun s w => R s.1 s.2 w) = S10 s1 w R PR := by kernel_rfl
  exact (fn_callsP okF okM Tryd.func10 (by kernel_rfl) (by kernel_rfl) (e.mpr h)).mono fun _ _ he => he.elim (fun ⟨s, he, hR⟩ => .inl ⟨s.1, s.2, he, hR⟩) .inr

/-- foliant/plain.Hex -/
def S11 (s1 : ByteArray) (w : World) (R : ByteArray → Int → World → Prop) : Prop :=
  Br (decide ((((s1).size : Nat) : Int) > 32767)) (R (⟨#[]⟩ : ByteArray) 5 w) (C26 s1 w fun r2 vw3 =>
      ((((⟨#[60]⟩ : ByteArray)).size + (r2).size : Nat) : Int) ≤ IntKind.i64.max ∧ ((((⟨#[60]⟩ : ByteArray) ++ r2).size + ((⟨#[62]⟩ : ByteArray)).size : Nat) : Int) ≤ IntKind.i64.max ∧ R (((⟨#[60]⟩ : ByteArray) ++ r2) ++ (⟨#[62]⟩ : ByteArray)) 0 vw3)
def pl11 : Plan := (.seq (.reg .seq) (.seq (.seq (.reg .seq) (.cond (.seq (.reg .seq) .leaf) .leaf)) (.seq (.reg .seq) .leaf)))
set_option maxRecDepth 100000 in
theorem T11 (s1 : ByteArray) (w : World) (R : ByteArray → Int → World → Prop) (h : S11 s1 w R) : C11 s1 w R := by
  have e : fnT Tryd.prog ⟨FF, MAY, (fun _ _ => False)⟩ pl11 Tryd.f11 [.string s1] w [(.one .str), (.one (.int .i64))] (fun s w => R s.1 s.2 w) = S11 s1 w R := by kernel_rfl
  exact (fn_calls okF okM Tryd.func11 (by kernel_rfl) (by kernel_rfl) (e.mpr h)).mono fun _ _ ⟨s, he, hR⟩ => ⟨s.1, s.2, he, hR⟩

def S13J1 (w : World) (s3 : Int × Int) (I5 : (Int × Int) → World → Prop) (x7 : ByteArray) (s18 : Unit) (vw19 : World) : Prop :=
  C25 (some (⟨w.heap.size, 0, none⟩ : Addr)) x7 vw19 fun r20 r21 vw22 =>
    0 ≤ (IntKind.i64.wrap ((((x7).size : Nat) : Int) - 1)) ∧ (IntKind.i64.wrap ((((x7).size : Nat) : Int) - 1)) < ((x7).size : Nat) ∧ I5 (bAt x7 (IntKind.i64.wrap ((((x7).size : Nat) : Int) - 1)), IntKind.i64.wrap (s3.2 + 1)) vw22
def S13L1 (w : World) (parts1 : Slc) (R : ByteArray → World → Prop) (I5 : (Int × Int) → World → Prop) (s3 : Int × Int) (vw4 : World) : Prop :=
  Br (decide (s3.2 < ((parts1.len : Nat) : Int))) (0 ≤ s3.2 ∧ s3.2 < (parts1.len : Nat) ∧ Nn parts1.p fun a6 =>
    Ld vw4 (a6.add ((s3.2).toNat * 1)) Value.string fun (x7 : ByteArray) =>
    Br (x7.toList == (⟨#[]⟩ : ByteArray).toList) (I5 (s3.1, IntKind.i64.wrap (s3.2 + 1)) vw4) (Join (S13J1 w s3 I5 x7) fun (vJ23 : Unit → World → Prop) =>
        C28 s3.1 vw4 fun r24 vw25 =>
          Br r24 (0 ≤ (0 : Int) ∧ (0 : Int) < ((x7).size : Nat) ∧ C28 (bAt x7 0) vw25 fun r26 vw27 =>
              Br r26 (C21 (some (⟨w.heap.size, 0, none⟩ : Addr)) 32 vw27 fun r28 vw29 =>
                  vJ23 () vw29) (vJ23 () vw27)) (Br (s3.1 == 47) (0 ≤ (0 : Int) ∧ (0 : Int) < ((x7).size : Nat) ∧ C28 (bAt x7 0) vw25 fun r30 vw31 =>
                Br r30 (C21 (some (⟨w.heap.size, 0, none⟩ : Addr)) 32 vw31 fun r32 vw33 =>
                    vJ23 () vw33) (vJ23 () vw31)) (vJ23 () vw25)))) (C29 (some (⟨w.heap.size, 0, none⟩ : Addr)) vw4 fun r34 vw35 =>
      R r34 vw35)
/-- foliant/plain.Join -/
def S13 (parts1 : Slc) (w : World) (R : ByteArray → World → Prop) : Prop :=
  Nw w (.cells #[.pointer none, Slc.v ((⟨none, 0, 0⟩ : Slc))] 60) fun vw2 =>
  Lp (σ := Int × Int) (S13L1 w parts1 R) (32, 0) vw2
def pl13 : Plan := (.seq (.reg .seq) (.seq (.reg .seq) (.seq (.reg .seq) (.seq (.seq (.reg .seq) (.block (.loop [(4, (.one (.int .u8))), (9, (.one (.int .i64)))] [3, 7, 8] (.seq (.reg .seq) (.seq (.cond .leaf .leaf) (.seq (.block (.seq (.reg .seq) (.seq (.seq (.reg .seq) (.cond .leaf .leaf)) (.join [] [3, 6, 7, 8, 9] (.seq (.reg .seq) (.cond (.reg .seq) .leaf)) (.seq (.reg .seq) (.reg .seq)))))) (.reg .seq))))))) (.seq (.reg .seq) .leaf)))))
set_option maxRecDepth 100000 in
theorem T13 (parts1 : Slc) (w : World) (R : ByteArray → World → Prop) (h : S13 parts1 w R) : C13 parts1 w R := by
  have e : fnT Tryd.prog ⟨FF, MAY, (fun _ _ => False)⟩ pl13 Tryd.f13 [Slc.v parts1] w [(.one .str)] (fun s w => R s w) = S13 parts1 w R := by kernel_rfl
  exact (fn_calls okF okM Tryd.func13 (by kernel_rfl) (by kernel_rfl) (e.mpr h)).mono fun _ _ ⟨s, he, hR⟩ => ⟨s, he, hR⟩



/-- foliant/octet.Find -/
def S12 (s1 : ByteArray) (part2 : ByteArray) (vfrom3 : Int) (w : World) (R : Int → World → Prop) : Prop :=
  Br (part2.toList == (⟨#[]⟩ : ByteArray).toList) (R (-1) w) (Br (decide ((if 0 > vfrom3 then 0 else vfrom3) > (((s1).size : Nat) : Int))) (R (-1) w) (0 ≤ (if 0 > vfrom3 then 0 else vfrom3) ∧ (if 0 > vfrom3 then 0 else vfrom3) ≤ (((s1).size : Nat) : Int) ∧ C27 (s1.extract (((if 0 > vfrom3 then 0 else vfrom3)).toNat) ((s1).size)) part2 w fun r4 vw5 =>
        Br (decide (r4 ≥ 0)) (R (IntKind.i64.wrap ((if 0 > vfrom3 then 0 else vfrom3) + r4)) vw5) (R (-1) vw5)))
def pl12 : Plan := (.seq (.reg .seq) (.seq (.reg .seq) (.seq (.seq (.reg .seq) (.cond (.seq (.reg .seq) .leaf) .leaf)) (.seq (.seq (.reg .seq) (.seq (.reg .seq) (.cond (.seq (.reg .seq) .leaf) .leaf))) (.seq (.reg .seq) .leaf)))))
set_option maxRecDepth 100000 in
theorem T12 (s1 : ByteArray) (part2 : ByteArray) (vfrom3 : Int) (w : World) (R : Int → World → Prop) (h : S12 s1 part2 vfrom3 w R) : C12 s1 part2 vfrom3 w R := by
  have e : fnT Tryd.prog ⟨FF, MAY, (fun _ _ => False)⟩ pl12 Tryd.f12 [.string s1, .string part2, .int .i64 vfrom3] w [(.one (.int .i64))] (fun s w => R s w) = S12 s1 part2 vfrom3 w R := by kernel_rfl
  exact (fn_calls okF okM Tryd.func12 (by kernel_rfl) (by kernel_rfl) (e.mpr h)).mono fun _ _ ⟨s, he, hR⟩ => ⟨s, he, hR⟩

/-- foliant/folianttop.TopTokens -/
def S4 (n1 : Int) (units2 : Int) (s3 : ByteArray) (name4 : ByteArray) (w : World) (R : Bool → World → Prop) (PR : Value → World → Prop) : Prop :=
  C7 (⟨#[49, 40, 97, 41, 47, 98]⟩ : ByteArray) w fun r12 r13 vw14 =>
    Nw vw14 (.cells #[.int .i64 0, .int .i64 0] 28) fun vw15 =>
    St vw15 (⟨vw14.heap.size, 0, none⟩ : Addr) (.int .i64 (r13.1)) fun vw16 =>
    St vw16 ((⟨vw14.heap.size, 0, none⟩ : Addr).add 1) (.int .i64 (r13.2)) fun vw17 =>
    Br (((r12.len : Nat) : Int) != 3) (R false vw17) (Ld vw17 ((⟨vw14.heap.size, 0, none⟩ : Addr).add 1) (Value.int .i64) fun (x18 : Int) =>
      Br (x18 != 0) (R false vw17) (Br (decide ((((s3).size : Nat) : Int) > 1000)) (R true vw17) (Br (decide ((((name4).size : Nat) : Int) > 100)) (R true vw17) (C8 n1 vw17 (fun r19 r20 vw21 =>
              C6 units2 vw21 fun r22 r23 vw24 =>
                C9 s3 vw24 (fun r25 r26 vw27 =>
                  C10 name4 vw27 (fun r28 r29 vw30 =>
                    C11 s3 vw30 fun r31 r32 vw33 =>
                      Br (r20 != 0) (Br (decide (n1 < (-2147483647))) (R true vw33) (Br (decide (n1 > 2147483647)) (R true vw33) (Br (decide (units2 < (-1073741824))) (R true vw33) (Br (decide (units2 > 1073741824)) (R true vw33) (C12 name4 (⟨#[0]⟩ : ByteArray) 0 vw33 fun r44 vw45 =>
                                  R (decide (r44 ≥ 0)) vw45))))) (Br (r23 != 0) (Br (decide (n1 < (-2147483647))) (R true vw33) (Br (decide (n1 > 2147483647)) (R true vw33) (Br (decide (units2 < (-1073741824))) (R true vw33) (Br (decide (units2 > 1073741824)) (R true vw33) (C12 name4 (⟨#[0]⟩ : ByteArray) 0 vw33 fun r46 vw47 =>
                                    R (decide (r46 ≥ 0)) vw47))))) (Br (r26 != 0) (Br (decide (n1 < (-2147483647))) (R true vw33) (Br (decide (n1 > 2147483647)) (R true vw33) (Br (decide (units2 < (-1073741824))) (R true vw33) (Br (decide (units2 > 1073741824)) (R true vw33) (C12 name4 (⟨#[0]⟩ : ByteArray) 0 vw33 fun r48 vw49 =>
                                      R (decide (r48 ≥ 0)) vw49))))) (Br (r29 != 0) (Br (decide (n1 < (-2147483647))) (R true vw33) (Br (decide (n1 > 2147483647)) (R true vw33) (Br (decide (units2 < (-1073741824))) (R true vw33) (Br (decide (units2 > 1073741824)) (R true vw33) (C12 name4 (⟨#[0]⟩ : ByteArray) 0 vw33 fun r50 vw51 =>
                                        R (decide (r50 ≥ 0)) vw51))))) (Br (r32 != 0) (Br (decide (n1 < (-2147483647))) (R true vw33) (Br (decide (n1 > 2147483647)) (R true vw33) (Br (decide (units2 < (-1073741824))) (R true vw33) (Br (decide (units2 > 1073741824)) (R true vw33) (C12 name4 (⟨#[0]⟩ : ByteArray) 0 vw33 fun r52 vw53 =>
                                          R (decide (r52 ≥ 0)) vw53))))) (Nw vw33 (.cells #[.string r19, .string r22, .string r25, .string r28, .string r31, .string ((⟨#[111, 98, 106]⟩ : ByteArray))] 9) fun vw54 =>
                                C13 (⟨some ⟨vw33.heap.size, 0, none⟩, 6, 6⟩ : Slc) vw54 fun r55 vw56 =>
                                  C7 r55 vw56 fun r57 r58 vw59 =>
                                    Nw vw59 (.cells #[.int .i64 0, .int .i64 0] 28) fun vw60 =>
                                    St vw60 (⟨vw59.heap.size, 0, none⟩ : Addr) (.int .i64 (r58.1)) fun vw61 =>
                                    St vw61 ((⟨vw59.heap.size, 0, none⟩ : Addr).add 1) (.int .i64 (r58.2)) fun vw62 =>
                                    Ld vw62 ((⟨vw59.heap.size, 0, none⟩ : Addr).add 1) (Value.int .i64) fun (x64 : Int) =>
                                    Br (x64 != 0) (R false vw62) (Br (((r57.len : Nat) : Int) != 6) (R false vw62) (0 ≤ (0 : Int) ∧ (0 : Int) < (r57.len : Nat) ∧ Nn r57.p fun a65 =>
                                        Ld vw62 (a65.add (((0 : Int)).toNat * 5)) (Value.int .i64) fun (x66 : Int) =>
                                        Br (x66 == 1) (0 ≤ (0 : Int) ∧ (0 : Int) < (r57.len : Nat) ∧ Nn r57.p fun a67 =>
                                          Ld vw62 ((a67.add (((0 : Int)).toNat * 5)).add 3) (Value.int .i64) fun (x68 : Int) =>
                                          Br (x68 == n1) (0 ≤ (1 : Int) ∧ (1 : Int) < (r57.len : Nat) ∧ Nn r57.p fun a69 =>
                                            Ld vw62 (a69.add (((1 : Int)).toNat * 5)) (Value.int .i64) fun (x70 : Int) =>
                                            Br (x70 == 2) (0 ≤ (1 : Int) ∧ (1 : Int) < (r57.len : Nat) ∧ Nn r57.p fun a71 =>
                                              Ld vw62 ((a71.add (((1 : Int)).toNat * 5)).add 3) (Value.int .i64) fun (x72 : Int) =>
                                              Br (x72 == units2) (0 ≤ (2 : Int) ∧ (2 : Int) < (r57.len : Nat) ∧ Nn r57.p fun a73 =>
                                                Ld vw62 (a73.add (((2 : Int)).toNat * 5)) (Value.int .i64) fun (x74 : Int) =>
                                                Br (x74 == 3) (0 ≤ (2 : Int) ∧ (2 : Int) < (r57.len : Nat) ∧ Nn r57.p fun a75 =>
                                                  Ld vw62 ((a75.add (((2 : Int)).toNat * 5)).add 4) Value.string fun (x76 : ByteArray) =>
                                                  Br (x76.toList == s3.toList) (0 ≤ (3 : Int) ∧ (3 : Int) < (r57.len : Nat) ∧ Nn r57.p fun a77 =>
                                                    Ld vw62 (a77.add (((3 : Int)).toNat * 5)) (Value.int .i64) fun (x78 : Int) =>
                                                    Br (x78 == 4) (0 ≤ (3 : Int) ∧ (3 : Int) < (r57.len : Nat) ∧ Nn r57.p fun a79 =>
                                                      Ld vw62 ((a79.add (((3 : Int)).toNat * 5)).add 4) Value.string fun (x80 : ByteArray) =>
                                                      Br (x80.toList == name4.toList) (0 ≤ (4 : Int) ∧ (4 : Int) < (r57.len : Nat) ∧ Nn r57.p fun a81 =>
                                                        Ld vw62 (a81.add (((4 : Int)).toNat * 5)) (Value.int .i64) fun (x82 : Int) =>
                                                        Br (x82 == 3) (0 ≤ (4 : Int) ∧ (4 : Int) < (r57.len : Nat) ∧ Nn r57.p fun a83 =>
                                                          Ld vw62 ((a83.add (((4 : Int)).toNat * 5)).add 4) Value.string fun (x84 : ByteArray) =>
                                                          Br (x84.toList == s3.toList) (0 ≤ (5 : Int) ∧ (5 : Int) < (r57.len : Nat) ∧ Nn r57.p fun a85 =>
                                                            Ld vw62 (a85.add (((5 : Int)).toNat * 5)) (Value.int .i64) fun (x86 : Int) =>
                                                            Br (x86 == 5) (0 ≤ (5 : Int) ∧ (5 : Int) < (r57.len : Nat) ∧ Nn r57.p fun a87 =>
                                                              Ld vw62 ((a87.add (((5 : Int)).toNat * 5)).add 4) Value.string fun (x88 : ByteArray) =>
                                                              R (x88.toList == (⟨#[111, 98, 106]⟩ : ByteArray).toList) vw62) (R false vw62)) (R false vw62)) (R false vw62)) (R false vw62)) (R false vw62)) (R false vw62)) (R false vw62)) (R false vw62)) (R false vw62)) (R false vw62)) (R false vw62))))))))) PR) PR) PR))))
def pl4 : Plan := (.seq (.reg .seq) (.seq (.seq (.reg .seq) (.seq (.reg .seq) (.cond (.seq (.reg .seq) .leaf) .leaf))) (.seq (.seq (.reg .seq) (.cond (.seq (.reg .seq) .leaf) .leaf)) (.seq (.reg .seq) (.seq (.reg .seq) (.seq (.reg .seq) (.seq (.reg .seq) (.seq (.reg .seq) (.seq (.seq (.reg .seq) (.cond (.seq (.reg .seq) .leaf) .leaf)) (.seq (.reg .seq) (.seq (.seq (.reg .seq) (.cond (.seq (.reg .seq) .leaf) .leaf)) (.seq (.reg .seq) .leaf))))))))))))
set_option maxRecDepth 100000 in
theorem T4 (n1 : Int) (units2 : Int) (s3 : ByteArray) (name4 : ByteArray) (w : World) (R : Bool → World → Prop) (PR : Value → World → Prop) (h : S4 n1 units2 s3 name4 w R PR) : C4 n1 units2 s3 name4 w R PR := by
  have e : fnT Tryd.prog ⟨FF, MAY, PR⟩ pl4 Tryd.f4 [.int .i64 n1, .int .i64 units2, .string s3, .string name4] w [(.one .bool)] (fun s w => R s w) = S4 n1 units2 s3 name4 w R PR := by kernel_rfl
  exact (fn_callsP okF okM Tryd.func4 (by kernel_rfl) (by kernel_rfl) (e.mpr h)).mono fun _ _ he => he.elim (fun ⟨s, he, hR⟩ => .inl ⟨s, he, hR⟩) .inr

end Go.Proofs.YtpkadliieplblaaDoor
