/- The formulas of 6 functions of the program, written by program (gen.py); the kernel checks each. No condition. -/
import Derived.Test.YtapgacggllbhiaaFn
import Derived.Test.YtapgacggllbhiaaFnBit
import Derived.Test.YtapgacggllbhiaaFnCode
import Derived.Test.YtapgacggllbhiaaFnCmp
import Derived.Test.YtapgacggllbhiaaCmp
import Derived.Test.YtapgacggllbhiaaFnSort
namespace Go.Proofs.Ytapgacggllbhiaa
open Sh
set_option linter.unusedVariables false
set_option maxRecDepth 100000

def C8 (w : World) (R : Bool → World → Prop) (PR : Value → World → Prop) : Prop :=
  Calls Try.prog 8 #[] w fun e w' => (∃ r0 : Bool, e = .returned (.bool r0) ∧ R r0 w') ∨ ∃ v, e = .panicked (onePanic v) ∧ PR v w'
theorem C8.mono {w : World} {R R' : Bool → World → Prop} {PR PR' : Value → World → Prop} (h : C8 w R PR) (hr : ∀ r0 w', R r0 w' → R' r0 w') (hp : ∀ v w', PR v w' → PR' v w') : C8 w R' PR' :=
  Calls.mono h fun _ _ he => he.elim (fun ⟨r0, he, hR⟩ => .inl ⟨r0, he, hr _ _ hR⟩) fun ⟨v, he, hP⟩ => .inr ⟨v, he, hp _ _ hP⟩
def C3 (lens1 : Slc) (counts2 : Slc) (w : World) (R : Bool → World → Prop) (PR : Value → World → Prop) : Prop :=
  Calls Try.prog 3 #[Slc.v lens1, Slc.v counts2] w fun e w' => (∃ r0 : Bool, e = .returned (.bool r0) ∧ R r0 w') ∨ ∃ v, e = .panicked (onePanic v) ∧ PR v w'
theorem C3.mono {lens1 : Slc} {counts2 : Slc} {w : World} {R R' : Bool → World → Prop} {PR PR' : Value → World → Prop} (h : C3 lens1 counts2 w R PR) (hr : ∀ r0 w', R r0 w' → R' r0 w') (hp : ∀ v w', PR v w' → PR' v w') : C3 lens1 counts2 w R' PR' :=
  Calls.mono h fun _ _ he => he.elim (fun ⟨r0, he, hR⟩ => .inl ⟨r0, he, hr _ _ hR⟩) fun ⟨v, he, hP⟩ => .inr ⟨v, he, hp _ _ hP⟩
def C4 (counts1 : Slc) (most2 : Int) (w : World) (R : Bool → World → Prop) (PR : Value → World → Prop) : Prop :=
  Calls Try.prog 4 #[Slc.v counts1, .int .i64 most2] w fun e w' => (∃ r0 : Bool, e = .returned (.bool r0) ∧ R r0 w') ∨ ∃ v, e = .panicked (onePanic v) ∧ PR v w'
theorem C4.mono {counts1 : Slc} {most2 : Int} {w : World} {R R' : Bool → World → Prop} {PR PR' : Value → World → Prop} (h : C4 counts1 most2 w R PR) (hr : ∀ r0 w', R r0 w' → R' r0 w') (hp : ∀ v w', PR v w' → PR' v w') : C4 counts1 most2 w R' PR' :=
  Calls.mono h fun _ _ he => he.elim (fun ⟨r0, he, hR⟩ => .inl ⟨r0, he, hr _ _ hR⟩) fun ⟨v, he, hP⟩ => .inr ⟨v, he, hp _ _ hP⟩
def C5 (lens1 : Slc) (s2 : ByteArray) (n3 : Int) (w : World) (R : Bool → World → Prop) (PR : Value → World → Prop) : Prop :=
  Calls Try.prog 5 #[Slc.v lens1, .string s2, .int .u8 n3] w fun e w' => (∃ r0 : Bool, e = .returned (.bool r0) ∧ R r0 w') ∨ ∃ v, e = .panicked (onePanic v) ∧ PR v w'
theorem C5.mono {lens1 : Slc} {s2 : ByteArray} {n3 : Int} {w : World} {R R' : Bool → World → Prop} {PR PR' : Value → World → Prop} (h : C5 lens1 s2 n3 w R PR) (hr : ∀ r0 w', R r0 w' → R' r0 w') (hp : ∀ v w', PR v w' → PR' v w') : C5 lens1 s2 n3 w R' PR' :=
  Calls.mono h fun _ _ he => he.elim (fun ⟨r0, he, hR⟩ => .inl ⟨r0, he, hr _ _ hR⟩) fun ⟨v, he, hP⟩ => .inr ⟨v, he, hp _ _ hP⟩
def C6 (lens1 : Slc) (signs2 : Slc) (w : World) (R : Bool → World → Prop) (PR : Value → World → Prop) : Prop :=
  Calls Try.prog 6 #[Slc.v lens1, Slc.v signs2] w fun e w' => (∃ r0 : Bool, e = .returned (.bool r0) ∧ R r0 w') ∨ ∃ v, e = .panicked (onePanic v) ∧ PR v w'
theorem C6.mono {lens1 : Slc} {signs2 : Slc} {w : World} {R R' : Bool → World → Prop} {PR PR' : Value → World → Prop} (h : C6 lens1 signs2 w R PR) (hr : ∀ r0 w', R r0 w' → R' r0 w') (hp : ∀ v w', PR v w' → PR' v w') : C6 lens1 signs2 w R' PR' :=
  Calls.mono h fun _ _ he => he.elim (fun ⟨r0, he, hR⟩ => .inl ⟨r0, he, hr _ _ hR⟩) fun ⟨v, he, hP⟩ => .inr ⟨v, he, hp _ _ hP⟩
def C7 (s1 : ByteArray) (sign2 : Int) (w : World) (R : Bool → World → Prop) (PR : Value → World → Prop) : Prop :=
  Calls Try.prog 7 #[.string s1, .int .i64 sign2] w fun e w' => (∃ r0 : Bool, e = .returned (.bool r0) ∧ R r0 w') ∨ ∃ v, e = .panicked (onePanic v) ∧ PR v w'
theorem C7.mono {s1 : ByteArray} {sign2 : Int} {w : World} {R R' : Bool → World → Prop} {PR PR' : Value → World → Prop} (h : C7 s1 sign2 w R PR) (hr : ∀ r0 w', R r0 w' → R' r0 w') (hp : ∀ v w', PR v w' → PR' v w') : C7 s1 sign2 w R' PR' :=
  Calls.mono h fun _ _ he => he.elim (fun ⟨r0, he, hR⟩ => .inl ⟨r0, he, hr _ _ hR⟩) fun ⟨v, he, hP⟩ => .inr ⟨v, he, hp _ _ hP⟩

/-- foliant/foliantlaw10.lives -/
def S8 (w : World) (R : Bool → World → Prop) (PR : Value → World → Prop) : Prop :=
  Nw w (.cells #[.int .i64 2, .int .i64 1, .int .i64 3, .int .i64 3] 3) fun vw1 =>
  C9 (⟨some ⟨w.heap.size, 0, none⟩, 4, 4⟩ : Slc) vw1 fun r2 r3 vw4 =>
    Nw vw4 (.cells #[.int .i64 5, .int .i64 0, .int .i64 1, .int .i64 1] 3) fun vw5 =>
    C17 (⟨some ⟨vw4.heap.size, 0, none⟩, 4, 4⟩ : Slc) 15 vw5 (fun r6 r7 vw8 =>
      Nw vw8 (.cells #[.int .i64 2, .int .i64 1, .int .i64 3, .int .i64 3] 3) fun vw9 =>
      C11 (⟨some ⟨vw8.heap.size, 0, none⟩, 4, 4⟩ : Slc) vw9 fun r10 r11 vw12 =>
        C24 vw12 fun r13 vw14 =>
          C25 r10 r13 2 vw14 fun r15 vw16 =>
            C20 (⟨#[3]⟩ : ByteArray) vw16 fun r17 vw18 =>
              C21 r10 r17 vw18 fun r19 r20 vw21 =>
                Nw vw21 (.cells #[.int .i64 1, .int .i64 1, .int .i64 1] 3) fun vw22 =>
                C11 (⟨some ⟨vw21.heap.size, 0, none⟩, 3, 3⟩ : Slc) vw22 fun r23 r24 vw25 =>
                  Br (r3 == 0) (Nw vw25 (.cells #[.int .i64 2, .int .i64 0, .int .i64 6, .int .i64 7] 3) fun vw26 =>
                    C12 r2 (⟨some ⟨vw25.heap.size, 0, none⟩, 4, 4⟩ : Slc) vw26 fun r27 vw28 =>
                      Br r27 (Br (r7 == 0) (Br (((r6.len : Nat) : Int) == 4) (0 ≤ (1 : Int) ∧ (1 : Int) < (r6.len : Nat) ∧ Nn r6.p fun a29 =>
                            Ld vw28 (a29.add (((1 : Int)).toNat * 1)) (Value.int .i64) fun (x30 : Int) =>
                            Br (x30 == 0) (Nw vw28 (.cells #[.int .i64 5, .int .i64 0, .int .i64 1, .int .i64 1] 3) fun vw31 =>
                              C15 r6 (⟨some ⟨vw28.heap.size, 0, none⟩, 4, 4⟩ : Slc) vw31 fun r32 vw33 =>
                                Br (r32 == 9) (Br (r11 == 0) (Br (r15 == 0) (C26 r13 vw33 fun r34 vw35 =>
                                        Br (r34.toList == (⟨#[3]⟩ : ByteArray).toList) (Br (r19 == 2) (Br (r20 == 0) (Br r23.isNone (Br (r24 == 13) (Nw vw35 (.cells #[.int .i64 0, .int .i64 1] 3) fun vw36 =>
                                                  C13 (⟨some ⟨vw35.heap.size, 0, none⟩, 2, 2⟩ : Slc) vw36 fun r37 vw38 =>
                                                    Br (r37 == 0) (Nw vw38 (.cells #[.int .i64 0, .int .i64 2] 3) fun vw39 =>
                                                      C13 (⟨some ⟨vw38.heap.size, 0, none⟩, 2, 2⟩ : Slc) vw39 fun r40 vw41 =>
                                                        Br (r40 == 13) (Nw vw41 (.cells #[.int .i64 16] 3) fun vw42 =>
                                                          C13 (⟨some ⟨vw41.heap.size, 0, none⟩, 1, 1⟩ : Slc) vw42 fun r43 vw44 =>
                                                            R (r43 == 1) vw44) (R false vw41)) (R false vw38)) (R false vw35)) (R false vw35)) (R false vw35)) (R false vw35)) (R false vw35)) (R false vw33)) (R false vw33)) (R false vw33)) (R false vw28)) (R false vw28)) (R false vw28)) (R false vw28)) (R false vw25)) PR
def pl8 : Plan := (.seq (.reg .seq) (.seq (.reg .seq) (.seq (.reg .seq) (.seq (.reg .seq) (.seq (.reg .seq) (.seq (.reg .seq) (.seq (.reg .seq) (.seq (.reg .seq) (.seq (.reg .seq) .leaf)))))))))
set_option maxRecDepth 100000 in
theorem T8 (w : World) (R : Bool → World → Prop) (PR : Value → World → Prop) (h : S8 w R PR) : C8 w R PR := by
  have e : fnT Try.prog ⟨FF, MAY, PR⟩ pl8 Try.f8 [] w [(.one .bool)] (fun s w => R s w) = S8 w R PR := by kernel_rfl
  exact (fn_callsP okF okM Try.func8 (by kernel_rfl) (by kernel_rfl) (e.mpr h)).mono fun _ _ he => he.elim (fun ⟨s, he, hR⟩ => .inl ⟨s, he, hR⟩) .inr

/-- foliant/foliantlaw10.CodeChecks -/
def S3 (lens1 : Slc) (counts2 : Slc) (w : World) (R : Bool → World → Prop) (PR : Value → World → Prop) : Prop :=
  Br (decide (((lens1.len : Nat) : Int) > 400)) (C8 w (fun r7 vw8 =>
      R r7 vw8) PR) (Br (decide (((counts2.len : Nat) : Int) > 400)) (C8 w (fun r9 vw10 =>
        R r9 vw10) PR) (C9 lens1 w fun r11 r12 vw13 =>
        C10 lens1 vw13 fun r14 r15 vw16 =>
          C11 lens1 vw16 fun r17 r18 vw19 =>
            C12 r11 r14 vw19 fun r20 vw21 =>
              Br r20 (Br (r12 == r15) (Br (r18 == r15) (Br ((!(r17.isNone)) == (r15 == 0)) (C13 lens1 vw21 fun r22 vw23 =>
                        C14 lens1 vw23 fun r24 vw25 =>
                          Br (r22 == r24) (C15 lens1 counts2 vw25 fun r26 vw27 =>
                              C16 lens1 counts2 vw27 fun r28 vw29 =>
                                Br (r26 == r28) (C8 vw29 (fun r30 vw31 =>
                                    R r30 vw31) PR) (R false vw29)) (R false vw25)) (R false vw21)) (R false vw21)) (R false vw21)) (R false vw21)))
def pl3 : Plan := (.seq (.reg .seq) (.seq (.seq (.reg .seq) (.cond (.seq (.reg .seq) .leaf) .leaf)) (.seq (.reg .seq) (.seq (.reg .seq) (.seq (.reg .seq) (.seq (.reg .seq) .leaf))))))
set_option maxRecDepth 100000 in
theorem T3 (lens1 : Slc) (counts2 : Slc) (w : World) (R : Bool → World → Prop) (PR : Value → World → Prop) (h : S3 lens1 counts2 w R PR) : C3 lens1 counts2 w R PR := by
  have e : fnT Try.prog ⟨FF, MAY, PR⟩ pl3 Try.f3 [Slc.v lens1, Slc.v counts2] w [(.one .bool)] (fun s w => R s w) = S3 lens1 counts2 w R PR := by kernel_rfl
  exact (fn_callsP okF okM Try.func3 (by kernel_rfl) (by kernel_rfl) (e.mpr h)).mono fun _ _ he => he.elim (fun ⟨s, he, hR⟩ => .inl ⟨s, he, hR⟩) .inr

def S4L1 (counts1 : Slc) (most2 : Int) (r7 : Slc) (R : Bool → World → Prop) (PR : Value → World → Prop) (I33 : Int → World → Prop) (s31 : Int) (vw32 : World) : Prop :=
  Br (decide (s31 < ((r7.len : Nat) : Int))) (0 ≤ s31 ∧ s31 < (r7.len : Nat) ∧ Nn r7.p fun a34 =>
    Ld vw32.drew (a34.add ((s31).toNat * 1)) (Value.int .i64) fun (x35 : Int) =>
    Br (decide (x35 > most2)) (R false vw32.drew) (0 ≤ s31 ∧ s31 < (r7.len : Nat) ∧ Nn r7.p fun a36 =>
      Ld vw32.drew (a36.add ((s31).toNat * 1)) (Value.int .i64) fun (x37 : Int) =>
      0 ≤ s31 ∧ s31 < (counts1.len : Nat) ∧ Nn counts1.p fun a38 =>
      Ld vw32.drew (a38.add ((s31).toNat * 1)) (Value.int .i64) fun (x39 : Int) =>
      Br (!((x37 == 0) == (x39 == 0))) (R false vw32.drew) (I33 (IntKind.i64.wrap (s31 + 1)) vw32.drew))) (C16 r7 counts1 vw32 fun r40 vw41 =>
      C19 counts1 most2 vw41 fun r42 vw43 =>
        Br (r40 == r42) (C8 vw43 (fun r44 vw45 =>
            R r44 vw45) PR) (R false vw43))
def S4J1 (counts1 : Slc) (most2 : Int) (R : Bool → World → Prop) (PR : Value → World → Prop) (s5 : Unit) (vw6 : World) : Prop :=
  C17 counts1 most2 vw6 (fun r7 r8 vw9 =>
    C18 counts1 most2 vw9 fun r14 vw15 =>
      Br (r14 != 0) (Br (r8 == r14) (Br (((r7.len : Nat) : Int) == 0) (C8 vw15 (fun r16 vw17 =>
              R r16 vw17) PR) (R false vw15)) (R false vw15)) (Br (r8 != 0) (R false vw15) (Br (((r7.len : Nat) : Int) != ((counts1.len : Nat) : Int)) (R false vw15) (C14 r7 vw15 fun r20 vw21 =>
              Br (r20 != 0) (R false vw21) (Lp (σ := Int) (S4L1 counts1 most2 r7 R PR) 0 vw21))))) PR
/-- foliant/foliantlaw10.CodeLeast -/
def S4 (counts1 : Slc) (most2 : Int) (w : World) (R : Bool → World → Prop) (PR : Value → World → Prop) : Prop :=
  Join (S4J1 counts1 most2 R PR) fun (vJ46 : Unit → World → Prop) =>
    Br (decide (((counts1.len : Nat) : Int) > 60)) (Br (decide (((counts1.len : Nat) : Int) ≤ 288)) (C8 w (fun r47 vw48 =>
          R r47 vw48) PR) (vJ46 () w)) (vJ46 () w)
def pl4 : Plan := (.seq (.reg .seq) (.join [] [0, 1] (.seq (.reg .seq) (.cond (.seq (.reg .seq) .leaf) .leaf)) (.seq (.reg .seq) (.seq (.seq (.reg .seq) (.seq (.reg .seq) (.cond (.seq (.reg .seq) .leaf) .leaf))) (.seq (.seq (.reg .seq) (.cond (.seq (.reg .seq) .leaf) .leaf)) (.seq (.seq (.reg .seq) (.block (.loop [(8, (.one (.int .i64)))] [0, 1, 5] (.seq (.seq (.reg .seq) (.cond .leaf .leaf)) (.seq (.block (.seq (.reg .still) (.cond (.seq (.reg .seq) .leaf) .leaf))) (.reg .seq)))))) (.seq (.reg .seq) .leaf)))))))
set_option maxRecDepth 100000 in
theorem T4 (counts1 : Slc) (most2 : Int) (w : World) (R : Bool → World → Prop) (PR : Value → World → Prop) (h : S4 counts1 most2 w R PR) : C4 counts1 most2 w R PR := by
  have e : fnT Try.prog ⟨FF, MAY, PR⟩ pl4 Try.f4 [Slc.v counts1, .int .i64 most2] w [(.one .bool)] (fun s w => R s w) = S4 counts1 most2 w R PR := by kernel_rfl
  exact (fn_callsP okF okM Try.func4 (by kernel_rfl) (by kernel_rfl) (e.mpr h)).mono fun _ _ he => he.elim (fun ⟨s, he, hR⟩ => .inl ⟨s, he, hR⟩) .inr

def S5L1 (lens1 : Slc) (s2 : ByteArray) (n3 : Int) (r12 : Option Addr) (r19 : Option Addr) (R : Bool → World → Prop) (PR : Value → World → Prop) (I23 : (Int × Int) → World → Prop) (s21 : Int × Int) (vw22 : World) : Prop :=
  Br (decide (s21.2 < (IntKind.i64.wrap (Int.tmod n3 40)))) (C21 r12 r19 vw22 fun r24 r25 vw26 =>
      C22 lens1 s2 s21.1 vw26 fun r27 r28 r29 vw30 =>
        Br (r24 != r27) (R false vw30) (Br (r25 != r29) (R false vw30) (C23 r19 vw30 fun r31 vw32 =>
              Br (r31 != (IntKind.i64.wrap ((IntKind.i64.wrap (8 * (((s2).size : Nat) : Int))) - r28))) (R false vw32) (Br (r25 != 0) (C8 vw32 (fun r33 vw34 =>
                    R r33 vw34) PR) (I23 (r28, IntKind.i64.wrap (s21.2 + 1)) vw32))))) (C8 vw22 (fun r35 vw36 =>
      R r35 vw36) PR)
/-- foliant/foliantlaw10.CodeReads -/
def S5 (lens1 : Slc) (s2 : ByteArray) (n3 : Int) (w : World) (R : Bool → World → Prop) (PR : Value → World → Prop) : Prop :=
  Br (decide (((lens1.len : Nat) : Int) > 300)) (C8 w (fun r8 vw9 =>
      R r8 vw9) PR) (Br (decide ((((s2).size : Nat) : Int) > 100)) (C8 w (fun r10 vw11 =>
        R r10 vw11) PR) (C11 lens1 w fun r12 r13 vw14 =>
        Br (r13 != 0) (C8 vw14 (fun r17 vw18 =>
            R r17 vw18) PR) (C20 s2 vw14 fun r19 vw20 =>
            Lp (σ := Int × Int) (S5L1 lens1 s2 n3 r12 r19 R PR) (0, 0) vw20)))
def pl5 : Plan := (.seq (.reg .seq) (.seq (.seq (.reg .seq) (.cond (.seq (.reg .seq) .leaf) .leaf)) (.seq (.reg .seq) (.seq (.seq (.reg .seq) (.cond (.seq (.reg .seq) .leaf) .leaf)) (.seq (.reg .seq) (.seq (.reg .seq) (.seq (.seq (.reg .seq) (.block (.loop [(10, (.one (.int .i64))), (11, (.one (.int .i64)))] [0, 1, 2, 7, 9] (.seq (.seq (.reg .seq) (.cond .leaf .leaf)) (.seq (.block (.seq (.reg .seq) (.seq (.reg .seq) (.seq (.reg .seq) (.seq (.seq (.reg .seq) (.cond (.seq (.reg .seq) .leaf) .leaf)) (.seq (.reg .seq) (.cond .leaf .leaf))))))) (.reg .seq)))))) (.seq (.reg .seq) .leaf))))))))
set_option maxRecDepth 100000 in
theorem T5 (lens1 : Slc) (s2 : ByteArray) (n3 : Int) (w : World) (R : Bool → World → Prop) (PR : Value → World → Prop) (h : S5 lens1 s2 n3 w R PR) : C5 lens1 s2 n3 w R PR := by
  have e : fnT Try.prog ⟨FF, MAY, PR⟩ pl5 Try.f5 [Slc.v lens1, .string s2, .int .u8 n3] w [(.one .bool)] (fun s w => R s w) = S5 lens1 s2 n3 w R PR := by kernel_rfl
  exact (fn_callsP okF okM Try.func5 (by kernel_rfl) (by kernel_rfl) (e.mpr h)).mono fun _ _ he => he.elim (fun ⟨s, he, hR⟩ => .inl ⟨s, he, hR⟩) .inr

def S6L1 (r11 : Option Addr) (r18 : Option Addr) (s52 : Slc × Int × Int) (r78 : Option Addr) (R : Bool → World → Prop) (PR : Value → World → Prop) (I90 : Int → World → Prop) (s88 : Int) (vw89 : World) : Prop :=
  Br (decide (s88 < ((s52.1.len : Nat) : Int))) (C21 r11 r78 vw89 fun r91 r92 vw93 =>
      Br (r92 != 0) (R false vw93) (0 ≤ s88 ∧ s88 < (s52.1.len : Nat) ∧ Nn s52.1.p fun a94 =>
        Ld vw93 (a94.add ((s88).toNat * 1)) (Value.int .i64) fun (x95 : Int) =>
        Br (r91 != x95) (R false vw93) (I90 (IntKind.i64.wrap (s88 + 1)) vw93))) (C27 r18 vw89 fun r96 vw97 =>
      Br (r96 == (IntKind.i64.wrap (Int.tdiv (IntKind.i64.wrap (s52.2.1 + 7)) 8))) (C23 r78 vw97 fun r98 vw99 =>
          C27 r18 vw99 fun r100 vw101 =>
            Br (r98 == (IntKind.i64.wrap ((IntKind.i64.wrap (8 * r100)) - s52.2.1))) (C8 vw101 (fun r102 vw103 =>
                R r102 vw103) PR) (R false vw101)) (R false vw97))
def S6L2 (lens1 : Slc) (signs2 : Slc) (r11 : Option Addr) (r18 : Option Addr) (R : Bool → World → Prop) (PR : Value → World → Prop) (I54 : (Slc × Int × Int) → World → Prop) (s52 : Slc × Int × Int) (vw53 : World) : Prop :=
  Br (decide (s52.2.2 < ((signs2.len : Nat) : Int))) (0 ≤ s52.2.2 ∧ s52.2.2 < (signs2.len : Nat) ∧ Nn signs2.p fun a55 =>
    Ld vw53 (a55.add ((s52.2.2).toNat * 1)) (Value.int .i64) fun (x56 : Int) =>
    C25 r11 r18 x56 vw53 fun r57 vw58 =>
      0 ≤ s52.2.2 ∧ s52.2.2 < (signs2.len : Nat) ∧ Nn signs2.p fun a59 =>
      Ld vw58 (a59.add ((s52.2.2).toNat * 1)) (Value.int .i64) fun (x60 : Int) =>
      Br (decide (x60 < 0)) (Br (r57 != 1) (R false vw58) (I54 (s52.1, s52.2.1, IntKind.i64.wrap (s52.2.2 + 1)) vw58)) (0 ≤ s52.2.2 ∧ s52.2.2 < (signs2.len : Nat) ∧ Nn signs2.p fun a61 =>
        Ld vw58 (a61.add ((s52.2.2).toNat * 1)) (Value.int .i64) fun (x62 : Int) =>
        Br (decide (x62 ≥ ((lens1.len : Nat) : Int))) (Br (r57 != 1) (R false vw58) (I54 (s52.1, s52.2.1, IntKind.i64.wrap (s52.2.2 + 1)) vw58)) (0 ≤ s52.2.2 ∧ s52.2.2 < (signs2.len : Nat) ∧ Nn signs2.p fun a63 =>
          Ld vw58 (a63.add ((s52.2.2).toNat * 1)) (Value.int .i64) fun (x64 : Int) =>
          0 ≤ x64 ∧ x64 < (lens1.len : Nat) ∧ Nn lens1.p fun a65 =>
          Ld vw58 (a65.add ((x64).toNat * 1)) (Value.int .i64) fun (x66 : Int) =>
          Br (x66 == 0) (Br (r57 != 13) (R false vw58) (I54 (s52.1, s52.2.1, IntKind.i64.wrap (s52.2.2 + 1)) vw58)) (Br (r57 != 0) (R false vw58) (0 ≤ s52.2.2 ∧ s52.2.2 < (signs2.len : Nat) ∧ Nn signs2.p fun a67 =>
              Ld vw58 (a67.add ((s52.2.2).toNat * 1)) (Value.int .i64) fun (x68 : Int) =>
              Nw vw58 (.cells #[.int .i64 x68] 3) fun vw69 =>
              Rn Try.prog (Builtin.append_ #[22, 22] 22 #[Slc.v s52.1, Slc.v ((⟨some ⟨vw58.heap.size, 0, none⟩, 1, 1⟩ : Slc))]) vw69 Slc.v fun (x70 : Slc) vw71 =>
              0 ≤ s52.2.2 ∧ s52.2.2 < (signs2.len : Nat) ∧ Nn signs2.p fun a72 =>
              Ld vw71 (a72.add ((s52.2.2).toNat * 1)) (Value.int .i64) fun (x73 : Int) =>
              0 ≤ x73 ∧ x73 < (lens1.len : Nat) ∧ Nn lens1.p fun a74 =>
              Ld vw71 (a74.add ((x73).toNat * 1)) (Value.int .i64) fun (x75 : Int) =>
              I54 (x70, IntKind.i64.wrap (s52.2.1 + x75), IntKind.i64.wrap (s52.2.2 + 1)) vw71))))) (C26 r18 vw53 fun r76 vw77 =>
      C20 r76 vw77 fun r78 vw79 =>
        Lp (σ := Int) (S6L1 r11 r18 s52 r78 R PR) 0 vw79)
/-- foliant/foliantlaw10.CodeBack -/
def S6 (lens1 : Slc) (signs2 : Slc) (w : World) (R : Bool → World → Prop) (PR : Value → World → Prop) : Prop :=
  Br (decide (((lens1.len : Nat) : Int) > 300)) (C8 w (fun r7 vw8 =>
      R r7 vw8) PR) (Br (decide (((signs2.len : Nat) : Int) > 200)) (C8 w (fun r9 vw10 =>
        R r9 vw10) PR) (C11 lens1 w fun r11 r12 vw13 =>
        Br (r12 != 0) (C8 vw13 (fun r16 vw17 =>
            R r16 vw17) PR) (C24 vw13 fun r18 vw19 =>
            Lp (σ := Slc × Int × Int) (S6L2 lens1 signs2 r11 r18 R PR) ((⟨none, 0, 0⟩ : Slc), 0, 0) vw19)))
def pl6 : Plan := (.seq (.reg .seq) (.seq (.seq (.reg .seq) (.cond (.seq (.reg .seq) .leaf) .leaf)) (.seq (.reg .seq) (.seq (.seq (.reg .seq) (.cond (.seq (.reg .seq) .leaf) .leaf)) (.seq (.reg .seq) (.seq (.reg .seq) (.seq (.reg .seq) (.seq (.seq (.reg .seq) (.block (.loop [(8, (.one .slc)), (9, (.one (.int .i64))), (10, (.one (.int .i64)))] [0, 1, 5, 7] (.seq (.seq (.reg .seq) (.cond .leaf .leaf)) (.seq (.block (.seq (.reg .seq) (.seq (.seq (.reg .seq) (.cond (.seq (.seq (.reg .seq) (.cond (.seq (.reg .seq) .leaf) .leaf)) .leaf) .leaf)) (.seq (.seq (.reg .seq) (.cond (.seq (.seq (.reg .seq) (.cond (.seq (.reg .seq) .leaf) .leaf)) .leaf) .leaf)) (.seq (.seq (.reg .seq) (.cond (.seq (.reg .seq) .leaf) .leaf)) (.seq (.reg .seq) (.reg .seq))))))) (.reg .seq)))))) (.seq (.reg .seq) (.seq (.seq (.reg .seq) (.block (.loop [(13, (.one (.int .i64)))] [5, 7, 8, 9, 12] (.seq (.seq (.reg .seq) (.cond .leaf .leaf)) (.seq (.block (.seq (.reg .seq) (.seq (.reg .seq) (.cond (.seq (.reg .seq) .leaf) .leaf)))) (.reg .seq)))))) (.seq (.reg .seq) .leaf)))))))))))
set_option maxRecDepth 100000 in
theorem T6 (lens1 : Slc) (signs2 : Slc) (w : World) (R : Bool → World → Prop) (PR : Value → World → Prop) (h : S6 lens1 signs2 w R PR) : C6 lens1 signs2 w R PR := by
  have e : fnT Try.prog ⟨FF, MAY, PR⟩ pl6 Try.f6 [Slc.v lens1, Slc.v signs2] w [(.one .bool)] (fun s w => R s w) = S6 lens1 signs2 w R PR := by kernel_rfl
  exact (fn_callsP okF okM Try.func6 (by kernel_rfl) (by kernel_rfl) (e.mpr h)).mono fun _ _ he => he.elim (fun ⟨s, he, hR⟩ => .inl ⟨s, he, hR⟩) .inr

/-- foliant/foliantlaw10.CodeNobody -/
def S7 (s1 : ByteArray) (sign2 : Int) (w : World) (R : Bool → World → Prop) (PR : Value → World → Prop) : Prop :=
  Br (decide ((((s1).size : Nat) : Int) > 100)) (C8 w (fun r5 vw6 =>
      R r5 vw6) PR) (C20 s1 w fun r7 vw8 =>
      C24 vw8 fun r9 vw10 =>
        Nw vw10 (.cells #[.int .i64 1, .int .i64 1] 3) fun vw11 =>
        C11 (⟨some ⟨vw10.heap.size, 0, none⟩, 2, 2⟩ : Slc) vw11 fun r12 r13 vw14 =>
          Br r12.isNone (R false vw14) (Br (r13 != 0) (R false vw14) (C21 none r7 vw14 fun r15 r16 vw17 =>
                C21 r12 none vw17 fun r18 r19 vw20 =>
                  Br (r16 == 1) (Br (r19 == 1) (C25 none r9 sign2 vw20 fun r21 vw22 =>
                        Br (r21 == 1) (C25 r12 none sign2 vw22 fun r23 vw24 =>
                            Br (r23 == 1) (C23 r7 vw24 fun r25 vw26 =>
                                Br (r25 == (IntKind.i64.wrap (8 * (((s1).size : Nat) : Int)))) (C27 r9 vw26 fun r27 vw28 =>
                                    Br (r27 == 0) (C8 vw28 (fun r29 vw30 =>
                                        R r29 vw30) PR) (R false vw28)) (R false vw26)) (R false vw24)) (R false vw22)) (R false vw20)) (R false vw20))))
def pl7 : Plan := (.seq (.reg .seq) (.seq (.seq (.reg .seq) (.cond (.seq (.reg .seq) .leaf) .leaf)) (.seq (.reg .seq) (.seq (.reg .seq) (.seq (.reg .seq) (.seq (.seq (.reg .seq) (.cond (.seq (.reg .seq) .leaf) .leaf)) (.seq (.reg .seq) (.seq (.reg .seq) (.seq (.reg .seq) .leaf)))))))))
set_option maxRecDepth 100000 in
theorem T7 (s1 : ByteArray) (sign2 : Int) (w : World) (R : Bool → World → Prop) (PR : Value → World → Prop) (h : S7 s1 sign2 w R PR) : C7 s1 sign2 w R PR := by
  have e : fnT Try.prog ⟨FF, MAY, PR⟩ pl7 Try.f7 [.string s1, .int .i64 sign2] w [(.one .bool)] (fun s w => R s w) = S7 s1 sign2 w R PR := by kernel_rfl
  exact (fn_callsP okF okM Try.func7 (by kernel_rfl) (by kernel_rfl) (e.mpr h)).mono fun _ _ he => he.elim (fun ⟨s, he, hR⟩ => .inl ⟨s, he, hR⟩) .inr

end Go.Proofs.Ytapgacggllbhiaa
