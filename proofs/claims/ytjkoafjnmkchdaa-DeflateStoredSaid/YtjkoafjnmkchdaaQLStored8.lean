/- The formulas of 4 functions of the program, written by program (gen.py); the kernel checks each. No condition. -/
import Derived.Test.YtjkoafjnmkchdaaQLStored3
import Derived.Test.YtjkoafjnmkchdaaQLStored4
import Derived.Test.YtjkoafjnmkchdaaQLStored5
import Derived.Test.YtjkoafjnmkchdaaQLStored6
import Derived.Test.YtjkoafjnmkchdaaQLStored7
namespace Go.Proofs.Ytjkoafjnmkchdaa
open Sh
set_option linter.unusedVariables false
set_option maxRecDepth 100000

def C8 (w : World) (R : Bool → World → Prop) (PR : Value → World → Prop) : Prop :=
  Calls Try.prog 8 #[] w fun e w' => (∃ r0 : Bool, e = .returned (.bool r0) ∧ R r0 w') ∨ ∃ v, e = .panicked (onePanic v) ∧ PR v w'
theorem C8.mono {w : World} {R R' : Bool → World → Prop} {PR PR' : Value → World → Prop} (h : C8 w R PR) (hr : ∀ r0 w', R r0 w' → R' r0 w') (hp : ∀ v w', PR v w' → PR' v w') : C8 w R' PR' :=
  Calls.mono h fun _ _ he => he.elim (fun ⟨r0, he, hR⟩ => .inl ⟨r0, he, hr _ _ hR⟩) fun ⟨v, he, hP⟩ => .inr ⟨v, he, hp _ _ hP⟩
def C7 (size1 : Int) (far2 : Int) (w : World) (R : Bool → World → Prop) (PR : Value → World → Prop) : Prop :=
  Calls Try.prog 7 #[.int .i64 size1, .int .i64 far2] w fun e w' => (∃ r0 : Bool, e = .returned (.bool r0) ∧ R r0 w') ∨ ∃ v, e = .panicked (onePanic v) ∧ PR v w'
theorem C7.mono {size1 : Int} {far2 : Int} {w : World} {R R' : Bool → World → Prop} {PR PR' : Value → World → Prop} (h : C7 size1 far2 w R PR) (hr : ∀ r0 w', R r0 w' → R' r0 w') (hp : ∀ v w', PR v w' → PR' v w') : C7 size1 far2 w R' PR' :=
  Calls.mono h fun _ _ he => he.elim (fun ⟨r0, he, hR⟩ => .inl ⟨r0, he, hr _ _ hR⟩) fun ⟨v, he, hP⟩ => .inr ⟨v, he, hp _ _ hP⟩
def C5 (l1 : Slc) (w : World) (R : Bool → World → Prop) (PR : Value → World → Prop) : Prop :=
  Calls Try.prog 5 #[Slc.v l1] w fun e w' => (∃ r0 : Bool, e = .returned (.bool r0) ∧ R r0 w') ∨ ∃ v, e = .panicked (onePanic v) ∧ PR v w'
theorem C5.mono {l1 : Slc} {w : World} {R R' : Bool → World → Prop} {PR PR' : Value → World → Prop} (h : C5 l1 w R PR) (hr : ∀ r0 w', R r0 w' → R' r0 w') (hp : ∀ v w', PR v w' → PR' v w') : C5 l1 w R' PR' :=
  Calls.mono h fun _ _ he => he.elim (fun ⟨r0, he, hR⟩ => .inl ⟨r0, he, hr _ _ hR⟩) fun ⟨v, he, hP⟩ => .inr ⟨v, he, hp _ _ hP⟩
def C4 (s1 : ByteArray) (w : World) (R : Bool → World → Prop) (PR : Value → World → Prop) : Prop :=
  Calls Try.prog 4 #[.string s1] w fun e w' => (∃ r0 : Bool, e = .returned (.bool r0) ∧ R r0 w') ∨ ∃ v, e = .panicked (onePanic v) ∧ PR v w'
theorem C4.mono {s1 : ByteArray} {w : World} {R R' : Bool → World → Prop} {PR PR' : Value → World → Prop} (h : C4 s1 w R PR) (hr : ∀ r0 w', R r0 w' → R' r0 w') (hp : ∀ v w', PR v w' → PR' v w') : C4 s1 w R' PR' :=
  Calls.mono h fun _ _ he => he.elim (fun ⟨r0, he, hR⟩ => .inl ⟨r0, he, hr _ _ hR⟩) fun ⟨v, he, hP⟩ => .inr ⟨v, he, hp _ _ hP⟩

/-- foliant/foliantlaw12.lives -/
def S8 (w : World) (R : Bool → World → Prop) (PR : Value → World → Prop) : Prop :=
  C11 (⟨#[97, 98, 99, 97, 98, 99, 97, 98]⟩ : ByteArray) w fun r1 vw2 =>
    Nw vw2 (.cells #[.int .u8 97, .int .i64 0, .int .i64 0, .int .u8 0, .int .i64 3, .int .i64 1] 34) fun vw3 =>
    C13 (⟨some ⟨vw2.heap.size, 0, none⟩, 2, 2⟩ : Slc) vw3 fun r4 r5 vw6 =>
      Nw vw6 (.cells #[.int .u8 0, .int .i64 3, .int .i64 1] 34) fun vw7 =>
      C13 (⟨some ⟨vw6.heap.size, 0, none⟩, 1, 1⟩ : Slc) vw7 fun r8 r9 vw10 =>
        C16 12 vw10 fun r11 r12 r13 r14 vw15 =>
          C16 258 vw15 fun r16 r17 r18 r19 vw20 =>
            C18 32768 vw20 fun r21 r22 r23 r24 vw25 =>
              C9 (⟨#[]⟩ : ByteArray) 0 vw25 (fun r26 r27 vw28 =>
                C9 (⟨#[]⟩ : ByteArray) 3 vw28 (fun r29 r30 vw31 =>
                  Br (((r1.len : Nat) : Int) == 4) (0 ≤ (3 : Int) ∧ (3 : Int) < (r1.len : Nat) ∧ Nn r1.p fun a32 =>
                    Ld vw31 (a32.add (((3 : Int)).toNat * 3)) (Value.int .u8) fun (x33 : Int) =>
                    Ld vw31 ((a32.add (((3 : Int)).toNat * 3)).add 1) (Value.int .i64) fun (x34 : Int) =>
                    Ld vw31 ((a32.add (((3 : Int)).toNat * 3)).add 2) (Value.int .i64) fun (x35 : Int) =>
                    Br ((x33 == 0) && ((x34 == 5) && ((x35 == 3) && true))) (Br (r4.toList == (⟨#[97, 97, 97, 97]⟩ : ByteArray).toList) (Br (r5 == 0) (Br (r9 == 14) (Br (r11 == 265) (Br (r12 == 1) (Br (r13 == 1) (Br (r14 == 0) (Br (r16 == 285) (Br (r19 == 0) (Br (r21 == 29) (Br (r22 == 8191) (Br (r23 == 13) (Br (r24 == 0) (Br (r26.toList == (⟨#[1, 0, 0, 255, 255]⟩ : ByteArray).toList) (Br (r27 == 0) (R (r30 == 1) vw31) (R false vw31)) (R false vw31)) (R false vw31)) (R false vw31)) (R false vw31)) (R false vw31)) (R false vw31)) (R false vw31)) (R false vw31)) (R false vw31)) (R false vw31)) (R false vw31)) (R false vw31)) (R false vw31)) (R false vw31)) (R false vw31)) (R false vw31)) PR) PR
def pl8 : Plan := (.seq (.reg .seq) (.seq (.reg .seq) (.seq (.reg .seq) (.seq (.reg .seq) (.seq (.reg .seq) (.seq (.reg .seq) (.seq (.reg .seq) (.seq (.reg .seq) (.seq (.reg .seq) (.seq (.reg .seq) .leaf))))))))))
set_option maxRecDepth 100000 in
theorem T8 (w : World) (R : Bool → World → Prop) (PR : Value → World → Prop) (h : S8 w R PR) : C8 w R PR := by
  have e : fnT Try.prog ⟨FF, MAY, PR⟩ pl8 Try.f8 [] w [(.one .bool)] (fun s w => R s w) = S8 w R PR := by kernel_rfl
  exact (fn_callsP okF okM Try.func8 (by kernel_rfl) (by kernel_rfl) (e.mpr h)).mono fun _ _ he => he.elim (fun ⟨s, he, hR⟩ => .inl ⟨s, he, hR⟩) .inr

def S7J1 (far2 : Int) (r13 : Int) (r14 : Int) (r16 : Int) (R : Bool → World → Prop) (PR : Value → World → Prop) (s26 : Unit) (vw27 : World) : Prop :=
  Br (r16 == 0) (C21 r13 r14 vw27 fun r28 r29 vw30 =>
      Br (r28 != far2) (R false vw30) (Br (r29 != 0) (R false vw30) (C8 vw30 (fun r31 vw32 =>
            R r31 vw32) PR))) (C8 vw27 (fun r33 vw34 =>
      R r33 vw34) PR)
/-- foliant/foliantlaw12.DeflateSigns -/
def S7 (size1 : Int) (far2 : Int) (w : World) (R : Bool → World → Prop) (PR : Value → World → Prop) : Prop :=
  C16 size1 w fun r3 r4 r5 r6 vw7 =>
    C17 size1 vw7 fun r8 r9 r10 r11 vw12 =>
      Br (r3 != r8) (R false vw12) (Br (r4 != r9) (R false vw12) (Br (r5 != r10) (R false vw12) (Br (r6 != r11) (R false vw12) (C18 far2 vw12 fun r13 r14 r15 r16 vw17 =>
                C19 far2 vw17 fun r18 r19 r20 r21 vw22 =>
                  Br (r13 != r18) (R false vw22) (Br (r14 != r19) (R false vw22) (Br (r15 != r20) (R false vw22) (Br (r16 != r21) (R false vw22) (Join (S7J1 far2 r13 r14 r16 R PR) fun (vJ35 : Unit → World → Prop) =>
                            Br (r6 == 0) (C20 r3 r4 vw22 fun r36 r37 vw38 =>
                                Br (r36 != size1) (R false vw38) (Br (r37 != 0) (R false vw38) (vJ35 () vw38))) (vJ35 () vw22)))))))))
def pl7 : Plan := (.seq (.reg .seq) (.seq (.reg .seq) (.seq (.reg .seq) (.seq (.seq (.reg .seq) (.cond (.seq (.reg .seq) .leaf) .leaf)) (.seq (.reg .seq) (.seq (.reg .seq) (.seq (.seq (.reg .seq) (.cond (.seq (.reg .seq) .leaf) .leaf)) (.join [] [1, 13, 14, 16] (.seq (.reg .seq) (.cond (.seq (.reg .seq) (.seq (.reg .seq) (.cond (.seq (.reg .seq) .leaf) .leaf))) .leaf)) (.seq (.seq (.reg .seq) (.cond (.seq (.reg .seq) (.seq (.reg .seq) (.cond (.seq (.reg .seq) .leaf) .leaf))) .leaf)) (.seq (.reg .seq) .leaf))))))))))
set_option maxRecDepth 100000 in
theorem T7 (size1 : Int) (far2 : Int) (w : World) (R : Bool → World → Prop) (PR : Value → World → Prop) (h : S7 size1 far2 w R PR) : C7 size1 far2 w R PR := by
  have e : fnT Try.prog ⟨FF, MAY, PR⟩ pl7 Try.f7 [.int .i64 size1, .int .i64 far2] w [(.one .bool)] (fun s w => R s w) = S7 size1 far2 w R PR := by kernel_rfl
  exact (fn_callsP okF okM Try.func7 (by kernel_rfl) (by kernel_rfl) (e.mpr h)).mono fun _ _ he => he.elim (fun ⟨s, he, hR⟩ => .inl ⟨s, he, hR⟩) .inr

def S5L1 (l1 : Slc) (R : Bool → World → Prop) (PR : Value → World → Prop) (I21 : (Slc × Int) → World → Prop) (s19 : Slc × Int) (vw20 : World) : Prop :=
  Br (decide (s19.2 < ((l1.len : Nat) : Int))) (∃ vS22 : World → Prop, vS22 vw20.drew ∧ 0 ≤ s19.2 ∧ s19.2 < (l1.len : Nat) ∧ Nn l1.p fun a23 =>
    LdS vS22 (a23.add ((s19.2).toNat * 3)) (Value.int .u8) fun (x24 : Int) =>
    0 ≤ s19.2 ∧ s19.2 < (l1.len : Nat) ∧ Nn l1.p fun a25 =>
    LdS vS22 ((a25.add ((s19.2).toNat * 3)).add 1) (Value.int .i64) fun (x26 : Int) =>
    0 ≤ s19.2 ∧ s19.2 < (l1.len : Nat) ∧ Nn l1.p fun a27 =>
    LdS vS22 ((a27.add ((s19.2).toNat * 3)).add 2) (Value.int .i64) fun (x28 : Int) =>
    Nw vw20.drew (.cells #[.int .u8 x24, .int .i64 x26, .int .i64 x28] 34) fun vw29 =>
    Rn Try.prog (Builtin.append_ #[29, 29] 29 #[Slc.v s19.1, Slc.v ((⟨some ⟨vw20.drew.heap.size, 0, none⟩, 1, 1⟩ : Slc))]) vw29 Slc.v fun (x30 : Slc) vw31 =>
    I21 (x30, IntKind.i64.wrap (s19.2 + 1)) vw31) (C13 s19.1 vw20 fun r32 r33 vw34 =>
      C14 l1 vw34 fun r35 r36 vw37 =>
        Br (r32.toList == r35.toList) (Br (r33 == r36) (C8 vw37 (fun r38 vw39 =>
              R r38 vw39) PR) (R false vw37)) (R false vw37))
/-- foliant/foliantlaw12.DeflateUnparts -/
def S5 (l1 : Slc) (w : World) (R : Bool → World → Prop) (PR : Value → World → Prop) : Prop :=
  Br (decide (((l1.len : Nat) : Int) > 100)) (C8 w (fun r4 vw5 =>
      R r4 vw5) PR) (Lp (σ := Slc × Int) (S5L1 l1 R PR) ((⟨none, 0, 0⟩ : Slc), 0) w)
def pl5 : Plan := (.seq (.reg .seq) (.seq (.seq (.reg .seq) (.cond (.seq (.reg .seq) .leaf) .leaf)) (.seq (.reg .seq) (.seq (.seq (.reg .seq) (.block (.loop [(3, (.one .slc)), (4, (.one (.int .i64)))] [0] (.seq (.seq (.reg .seq) (.cond .leaf .leaf)) (.seq (.block (.reg (.held [16] (.take 0 (.take 1 (.take 2 (.take 3 (.take 4 (.take 5 (.take 6 (.take 7 (.take 8 (.take 9 (.take 10 (.take 11 (.take 12 (.take 13 (.take 14 (.take 15 (.eff 16 (some [17]) (.eff 17 (some [18]) (.eff 18 (some []) (.take 19 .done))))))))))))))))))))))) (.reg .seq)))))) (.seq (.reg .seq) (.seq (.reg .seq) (.seq (.reg .seq) .leaf)))))))
set_option maxRecDepth 100000 in
theorem T5 (l1 : Slc) (w : World) (R : Bool → World → Prop) (PR : Value → World → Prop) (h : S5 l1 w R PR) : C5 l1 w R PR := by
  have e : fnT Try.prog ⟨FF, MAY, PR⟩ pl5 Try.f5 [Slc.v l1] w [(.one .bool)] (fun s w => R s w) = S5 l1 w R PR := by kernel_rfl
  exact (fn_callsP okF okM Try.func5 (by kernel_rfl) (by kernel_rfl) (e.mpr h)).mono fun _ _ he => he.elim (fun ⟨s, he, hR⟩ => .inl ⟨s, he, hR⟩) .inr

def S4L1 (s1 : ByteArray) (r6 : Slc) (r8 : Slc) (R : Bool → World → Prop) (PR : Value → World → Prop) (I27 : Int → World → Prop) (s25 : Int) (vw26 : World) : Prop :=
  Br (decide (s25 < ((r6.len : Nat) : Int))) (0 ≤ s25 ∧ s25 < (r6.len : Nat) ∧ Nn r6.p fun a28 =>
    Ld vw26.drew (a28.add ((s25).toNat * 3)) (Value.int .u8) fun (x29 : Int) =>
    0 ≤ s25 ∧ s25 < (r8.len : Nat) ∧ Nn r8.p fun a30 =>
    Ld vw26.drew (a30.add ((s25).toNat * 3)) (Value.int .u8) fun (x31 : Int) =>
    Br (x29 != x31) (R false vw26.drew) (0 ≤ s25 ∧ s25 < (r6.len : Nat) ∧ Nn r6.p fun a32 =>
      Ld vw26.drew ((a32.add ((s25).toNat * 3)).add 1) (Value.int .i64) fun (x33 : Int) =>
      0 ≤ s25 ∧ s25 < (r8.len : Nat) ∧ Nn r8.p fun a34 =>
      Ld vw26.drew ((a34.add ((s25).toNat * 3)).add 1) (Value.int .i64) fun (x35 : Int) =>
      Br (x33 != x35) (R false vw26.drew) (0 ≤ s25 ∧ s25 < (r6.len : Nat) ∧ Nn r6.p fun a36 =>
        Ld vw26.drew ((a36.add ((s25).toNat * 3)).add 2) (Value.int .i64) fun (x37 : Int) =>
        0 ≤ s25 ∧ s25 < (r8.len : Nat) ∧ Nn r8.p fun a38 =>
        Ld vw26.drew ((a38.add ((s25).toNat * 3)).add 2) (Value.int .i64) fun (x39 : Int) =>
        Br (x37 != x39) (R false vw26.drew) (I27 (IntKind.i64.wrap (s25 + 1)) vw26.drew)))) (C13 r6 vw26 fun r40 r41 vw42 =>
      Br (r40.toList == s1.toList) (Br (r41 == 0) (C8 vw42 (fun r43 vw44 =>
            R r43 vw44) PR) (R false vw42)) (R false vw42))
/-- foliant/foliantlaw12.DeflateParts -/
def S4 (s1 : ByteArray) (w : World) (R : Bool → World → Prop) (PR : Value → World → Prop) : Prop :=
  Br (decide ((((s1).size : Nat) : Int) > 600)) (C8 w (fun r4 vw5 =>
      R r4 vw5) PR) (C11 s1 w fun r6 vw7 =>
      C12 s1 vw7 fun r8 vw9 =>
        Br (((r6.len : Nat) : Int) != ((r8.len : Nat) : Int)) (R false vw9) (Lp (σ := Int) (S4L1 s1 r6 r8 R PR) 0 vw9))
def pl4 : Plan := (.seq (.reg .seq) (.seq (.seq (.reg .seq) (.cond (.seq (.reg .seq) .leaf) .leaf)) (.seq (.reg .seq) (.seq (.seq (.reg .seq) (.cond (.seq (.reg .seq) .leaf) .leaf)) (.seq (.seq (.reg .seq) (.block (.loop [(5, (.one (.int .i64)))] [0, 3, 4] (.seq (.seq (.reg .seq) (.cond .leaf .leaf)) (.seq (.block (.seq (.reg .still) (.cond (.seq (.reg .seq) .leaf) .leaf))) (.reg .seq)))))) (.seq (.reg .seq) (.seq (.reg .seq) .leaf)))))))
set_option maxRecDepth 100000 in
theorem T4 (s1 : ByteArray) (w : World) (R : Bool → World → Prop) (PR : Value → World → Prop) (h : S4 s1 w R PR) : C4 s1 w R PR := by
  have e : fnT Try.prog ⟨FF, MAY, PR⟩ pl4 Try.f4 [.string s1] w [(.one .bool)] (fun s w => R s w) = S4 s1 w R PR := by kernel_rfl
  exact (fn_callsP okF okM Try.func4 (by kernel_rfl) (by kernel_rfl) (e.mpr h)).mono fun _ _ he => he.elim (fun ⟨s, he, hR⟩ => .inl ⟨s, he, hR⟩) .inr

end Go.Proofs.Ytjkoafjnmkchdaa

/- The formulas of 2 functions of the program, written by program (gen.py); the kernel checks each. No condition. -/
namespace Go.Proofs.Ytjkoafjnmkchdaa
open Sh
set_option linter.unusedVariables false
set_option maxRecDepth 100000

def C6 (n1 : Int) (c2 : Int) (w : World) (R : Bool → World → Prop) (PR : Value → World → Prop) : Prop :=
  Calls Try.prog 6 #[.int .i64 n1, .int .u8 c2] w fun e w' => (∃ r0 : Bool, e = .returned (.bool r0) ∧ R r0 w') ∨ ∃ v, e = .panicked (onePanic v) ∧ PR v w'
theorem C6.mono {n1 : Int} {c2 : Int} {w : World} {R R' : Bool → World → Prop} {PR PR' : Value → World → Prop} (h : C6 n1 c2 w R PR) (hr : ∀ r0 w', R r0 w' → R' r0 w') (hp : ∀ v w', PR v w' → PR' v w') : C6 n1 c2 w R' PR' :=
  Calls.mono h fun _ _ he => he.elim (fun ⟨r0, he, hR⟩ => .inl ⟨r0, he, hr _ _ hR⟩) fun ⟨v, he, hP⟩ => .inr ⟨v, he, hp _ _ hP⟩
def C3 (s1 : ByteArray) (level2 : Int) (w : World) (R : Bool → World → Prop) (PR : Value → World → Prop) : Prop :=
  Calls Try.prog 3 #[.string s1, .int .i64 level2] w fun e w' => (∃ r0 : Bool, e = .returned (.bool r0) ∧ R r0 w') ∨ ∃ v, e = .panicked (onePanic v) ∧ PR v w'
theorem C3.mono {s1 : ByteArray} {level2 : Int} {w : World} {R R' : Bool → World → Prop} {PR PR' : Value → World → Prop} (h : C3 s1 level2 w R PR) (hr : ∀ r0 w', R r0 w' → R' r0 w') (hp : ∀ v w', PR v w' → PR' v w') : C3 s1 level2 w R' PR' :=
  Calls.mono h fun _ _ he => he.elim (fun ⟨r0, he, hR⟩ => .inl ⟨r0, he, hr _ _ hR⟩) fun ⟨v, he, hP⟩ => .inr ⟨v, he, hp _ _ hP⟩

def S6L1 (n1 : Int) (c2 : Int) (x11 : Slc) (R : Bool → World → Prop) (PR : Value → World → Prop) (I20 : Int → World → Prop) (s18 : Int) (vw19 : World) : Prop :=
  Br (decide (s18 < n1)) (0 ≤ s18 ∧ s18 < (x11.len : Nat) ∧ Nn x11.p fun a21 =>
    St vw19 (a21.add ((s18).toNat * 1)) (.int .u8 c2) fun vw22 =>
    I20 (IntKind.i64.wrap (s18 + 1)) vw22) (Rn Try.prog (convert 40 9 (Slc.v x11)) vw19 Value.string fun (x23 : ByteArray) vw24 =>
    C9 x23 0 vw24 (fun r25 r26 vw27 =>
      Rn Try.prog (convert 40 9 (Slc.v x11)) vw27 Value.string fun (x28 : ByteArray) vw29 =>
      C15 x28 0 vw29 fun r30 r31 vw32 =>
        Br (r26 == 0) (Br (r31 == 0) (Br (r25.toList == r30.toList) (C8 vw32 (fun r33 vw34 =>
                R r33 vw34) PR) (R false vw32)) (R false vw32)) (R false vw32)) PR)
/-- foliant/foliantlaw12.DeflateStored -/
def S6 (n1 : Int) (c2 : Int) (w : World) (R : Bool → World → Prop) (PR : Value → World → Prop) : Prop :=
  Br (decide (n1 < 0)) (C8 w (fun r7 vw8 =>
      R r7 vw8) PR) (Br (decide (n1 > 140000)) (C8 w (fun r9 vw10 =>
        R r9 vw10) PR) (Rn Try.prog (Instr.makeSlice 40 (.int .i64 n1) (.int .i64 n1)) w Slc.v fun (x11 : Slc) vw12 =>
      Lp (σ := Int) (S6L1 n1 c2 x11 R PR) 0 vw12))
def pl6 : Plan := (.seq (.reg .seq) (.seq (.seq (.reg .seq) (.cond (.seq (.reg .seq) .leaf) .leaf)) (.seq (.reg .seq) (.seq (.seq (.reg .seq) (.block (.loop [(6, (.one (.int .i64)))] [0, 1, 5] (.seq (.seq (.reg .seq) (.cond .leaf .leaf)) (.seq (.block (.reg .seq)) (.reg .seq)))))) (.seq (.reg .seq) (.seq (.reg .seq) (.seq (.reg .seq) .leaf)))))))
set_option maxRecDepth 100000 in
theorem T6 (n1 : Int) (c2 : Int) (w : World) (R : Bool → World → Prop) (PR : Value → World → Prop) (h : S6 n1 c2 w R PR) : C6 n1 c2 w R PR := by
  have e : fnT Try.prog ⟨FF, MAY, PR⟩ pl6 Try.f6 [.int .i64 n1, .int .u8 c2] w [(.one .bool)] (fun s w => R s w) = S6 n1 c2 w R PR := by kernel_rfl
  exact (fn_callsP okF okM Try.func6 (by kernel_rfl) (by kernel_rfl) (e.mpr h)).mono fun _ _ he => he.elim (fun ⟨s, he, hR⟩ => .inl ⟨s, he, hR⟩) .inr

/-- foliant/foliantlaw12.DeflateAll -/
def S3 (s1 : ByteArray) (level2 : Int) (w : World) (R : Bool → World → Prop) (PR : Value → World → Prop) : Prop :=
  Br (decide ((((s1).size : Nat) : Int) > 1000)) (C8 w (fun r5 vw6 =>
      R r5 vw6) PR) (C9 s1 level2 w (fun r7 r8 vw9 =>
      Br (decide (level2 < 0)) (Br (r7.toList == (⟨#[]⟩ : ByteArray).toList) (Br (r8 == 1) (C8 vw9 (fun r14 vw15 =>
              R r14 vw15) PR) (R false vw9)) (R false vw9)) (Br (decide (level2 > 2)) (Br (r7.toList == (⟨#[]⟩ : ByteArray).toList) (Br (r8 == 1) (C8 vw9 (fun r16 vw17 =>
                R r16 vw17) PR) (R false vw9)) (R false vw9)) (Br (r8 != 0) (R false vw9) (Br (level2 == 0) (Br ((((r7).size : Nat) : Int) != (IntKind.i64.wrap ((((s1).size : Nat) : Int) + 5))) (R false vw9) (Br (decide ((((r7).size : Nat) : Int) > (IntKind.i64.wrap ((((s1).size : Nat) : Int) + 21)))) (R false vw9) (C10 r7 (((s1).size : Nat) : Int) vw9 fun r18 r19 r20 vw21 =>
                    Br (r20 == 0) (Br (r18.toList == s1.toList) (Br (r19 == (((r7).size : Nat) : Int)) (C8 vw21 (fun r22 vw23 =>
                            R r22 vw23) PR) (R false vw21)) (R false vw21)) (R false vw21)))) (Br (decide ((((r7).size : Nat) : Int) > (IntKind.i64.wrap ((((s1).size : Nat) : Int) + 21)))) (R false vw9) (C10 r7 (((s1).size : Nat) : Int) vw9 fun r24 r25 r26 vw27 =>
                  Br (r26 == 0) (Br (r24.toList == s1.toList) (Br (r25 == (((r7).size : Nat) : Int)) (C8 vw27 (fun r28 vw29 =>
                          R r28 vw29) PR) (R false vw27)) (R false vw27)) (R false vw27))))))) PR)
def pl3 : Plan := (.seq (.reg .seq) (.seq (.seq (.reg .seq) (.cond (.seq (.reg .seq) .leaf) .leaf)) (.seq (.reg .seq) (.seq (.seq (.reg .seq) (.cond (.seq (.reg .seq) .leaf) .leaf)) (.seq (.seq (.reg .seq) (.cond (.seq (.reg .seq) .leaf) .leaf)) (.seq (.reg .seq) (.seq (.reg .seq) .leaf)))))))
set_option maxRecDepth 100000 in
theorem T3 (s1 : ByteArray) (level2 : Int) (w : World) (R : Bool → World → Prop) (PR : Value → World → Prop) (h : S3 s1 level2 w R PR) : C3 s1 level2 w R PR := by
  have e : fnT Try.prog ⟨FF, MAY, PR⟩ pl3 Try.f3 [.string s1, .int .i64 level2] w [(.one .bool)] (fun s w => R s w) = S3 s1 level2 w R PR := by kernel_rfl
  exact (fn_callsP okF okM Try.func3 (by kernel_rfl) (by kernel_rfl) (e.mpr h)).mono fun _ _ he => he.elim (fun ⟨s, he, hR⟩ => .inl ⟨s, he, hR⟩) .inr

end Go.Proofs.Ytjkoafjnmkchdaa

/- Deflate: the laws DeflateSigns, DeflateUnparts, DeflateParts, DeflateStored. No condition. -/
namespace Go.Proofs.Ytjkoafjnmkchdaa
namespace Inf
open Sh Bit
set_option linter.unusedVariables false
set_option linter.unusedSimpArgs false
set_option maxRecDepth 4000
set_option maxHeartbeats 1000000
/-- A slice's elements, one more than deep enough: what each is. -/
theorem rdC_slice' {P : Program} {w : World} {n k : Nat} {t e : TypeId} {cs : List Value} {α : Type} [Inhabited α] {Q : α → List Value → Prop} (hu : P.underlying t = some (.slice e)) (hk : P.cellsOf e = k) (h : RdC P w n t cs)
    (hQ : ∀ m cs', cs'.length = k → RdC P w m e cs' → ∃ q, Q q cs') : ∃ (s : Slc) (L : List α), cs = [Slc.v s] ∧ s.len = L.length ∧ L.length ≤ maxLen ∧ ∀ (i : Nat) (q : α), L[i]? = some q → ∃ a cs', s.p = some a ∧ (∀ j, j < k → w.cell? (a.add (i * k + j)) = cs'[j]?) ∧ Q q cs' := by
  obtain ⟨s, m, h1, h2⟩ := rdC_slice hu h
  rcases h2 with rfl | ⟨a, hp, g1, g2, hc⟩
  · exact ⟨_, [], h1, rfl, Nat.zero_le _, fun i q hi => by cases hi⟩
  · rw [hk] at hc
    have h' : ∀ i, ∃ q : α, i < s.len → ∃ cs', (∀ j, j < k → w.cell? (a.add (i * k + j)) = cs'[j]?) ∧ Q q cs' := fun i => by
      by_cases hi : i < s.len
      · obtain ⟨cs', hl, hc, hr⟩ := hc i hi
        obtain ⟨q, hq⟩ := hQ m cs' hl hr
        exact ⟨q, fun _ => ⟨cs', hc, hq⟩⟩
      · exact ⟨default, fun hh => absurd hh hi⟩
    refine ⟨s, (List.range s.len).map fun i => Classical.choose (h' i), h1, by simp, by simp; omega, fun i q hi => ?_⟩
    rw [List.getElem?_map] at hi
    obtain ⟨i', hi1, rfl⟩ := Option.map_eq_some_iff.1 hi
    obtain ⟨hlt, rfl⟩ := List.getElem?_eq_some_iff.1 hi1
    simp only [List.length_range] at hlt
    simp only [List.getElem_range]
    obtain ⟨cs', c1, c2⟩ := Classical.choose_spec (h' i) hlt
    exact ⟨a, cs', hp, c1, c2⟩
set_option maxRecDepth 100000 in
theorem part_rd {w : World} {n : Nat} {cs : List Value} (hl : cs.length = 3) (hn : RdC Try.prog w n 35 cs) : ∃ o : Qr, cs = prow o ∧ 0 ≤ o.1 ∧ o.1 ≤ 255 := by
  obtain ⟨c0, c1, c2, rfl⟩ : ∃ c0 c1 c2, cs = [c0, c1, c2] := by
    match cs, hl with
    | [c0, c1, c2], _ => exact ⟨c0, c1, c2, rfl⟩
  obtain ⟨x0, rfl, f0⟩ := leaf_int (k := 8) (i := 0) (u := 5) (by kernel_rfl) Try.underlying5 hn rfl
  obtain ⟨x1, rfl, f1⟩ := leaf_int (k := 8) (i := 1) (u := 3) (by kernel_rfl) Try.underlying3 hn rfl
  obtain ⟨x2, rfl, f2⟩ := leaf_int (k := 8) (i := 2) (u := 3) (by kernel_rfl) Try.underlying3 hn rfl
  exact ⟨(x0, x1, x2), rfl, wf_u8 f0⟩
theorem parts_arg {H : Type} {enc : TypeId × Value → H} {W : World} {spare : Nat → Bool} {held : Bool} {v : Value} {d : DataW H} {ps : List MemPlace} {rr : Reach} {b0 : Nat}
    (h0 : Value.okWide Try.prog W rr b0 31 v) (h : DataW.Trod enc Try.prog W 0 spare held 31 v d ps) : ∃ (s : Slc) (L : List Qr), v = Slc.v s ∧ PV W s L ∧ L.length ≤ maxLen ∧ ∀ o ∈ L, 0 ≤ o.1 ∧ o.1 ≤ 255 := by
  obtain ⟨n, hn⟩ := rdC_arg_slice Try.underlying31 h0 h
  have : Inhabited Qr := ⟨(0, 0, 0)⟩
  obtain ⟨s, L, e, l5, m5, g5⟩ := rdC_slice' (Q := fun (o : Qr) cs => cs = prow o ∧ 0 ≤ o.1 ∧ o.1 ≤ 255) Try.underlying31 (show Try.prog.cellsOf 35 = 3 by kernel_rfl) hn fun m cs' hl h => part_rd hl h
  refine ⟨s, L, by simpa using e, ⟨l5, by rw [p_len, l5], fun j v hj => ?_⟩, m5, fun o ho => ?_⟩
  · have hjl : j < L.length * 3 := by
      rw [← p_len]
      exact (List.getElem?_eq_some_iff.1 hj).1
    have hi : j / 3 < L.length := by omega
    have hjj : j = j / 3 * 3 + j % 3 := by omega
    have hLi : L[j / 3]? = some L[j / 3] := List.getElem?_eq_getElem hi
    obtain ⟨a, cs', ha, hc, rfl, _⟩ := g5 _ _ hLi
    refine ⟨a, ha, ?_⟩
    have h1 := hc (j % 3) (by omega)
    rw [hjj] at hj ⊢
    rw [p_get hLi (by omega)] at hj
    rw [h1]
    exact hj
  · obtain ⟨i, hi, rfl⟩ := List.mem_iff_getElem.1 ho
    obtain ⟨_, _, _, _, _, h⟩ := g5 i _ (List.getElem?_eq_getElem hi)
    exact h
attribute [local irreducible] Ld St Nw Nn Lt LdS
/-- foliant/deflate.All, stored. -/
theorem c_All0 {S : ByteArray} (hs : S.size ≤ 1048576) (w : World) : C9 S 0 w (fun r e w1 => r = ⟨(storedT S.data.toList).toArray⟩ ∧ e = 0 ∧ Ext (fun _ => False) w w1) (fun _ _ => False) := by
  refine T9 _ _ _ _ _ ?_
  unfold S9
  refine Br.dec (fun q => absurd q (by decide)) fun _ => Br.dec (fun q => absurd q (by decide)) fun _ => Br.dec (fun q => absurd q (by omega)) fun _ => ?_
  refine (c_stored hs w).mono ?_
  rintro r w4 ⟨rfl, he⟩
  exact Br.t rfl ⟨rfl, rfl, he⟩
theorem c_All3 (S : ByteArray) {lv : Int} (h : lv < 0 ∨ 2 < lv) (w : World) : C9 S lv w (fun r e w1 => r = ⟨#[]⟩ ∧ e = 1 ∧ Ext (fun _ => False) w w1) (fun _ _ => False) := by
  refine T9 _ _ _ _ _ ?_
  unfold S9
  exact Br.dec (fun q => ⟨rfl, rfl, Ext.refl _ _⟩) fun q1 => Br.dec (fun q => ⟨rfl, rfl, Ext.refl _ _⟩) fun q2 => absurd h (by omega)
/-- The law's checks of fixed inputs. -/
theorem lives (w : World) : C8 w (fun r w1 => r = true ∧ Ext (fun _ => False) w w1) (fun _ _ => False) := by
  refine T8 _ _ _ ?_
  unfold S8
  refine (c_Parts (S := ⟨#[97, 98, 99, 97, 98, 99, 97, 98]⟩) (by decide) w).mono ?_
  rintro r1 w2 ⟨hP, he⟩
  have eP : (partsS (⟨#[97, 98, 99, 97, 98, 99, 97, 98]⟩ : ByteArray).data.toList).map rawP = [(97, 0, 0), (98, 0, 0), (99, 0, 0), (0, 5, 3)] := by decide +kernel
  rw [eP] at hP
  refine Nw.of ?_
  have e3 := (Ext.refl (fun _ => False) w2).alloc (.cells #[.int .u8 97, .int .i64 0, .int .i64 0, .int .u8 0, .int .i64 3, .int .i64 1] 34)
  have P3 : PV (w2.alloc (.cells #[.int .u8 97, .int .i64 0, .int .i64 0, .int .u8 0, .int .i64 3, .int .i64 1] 34)) ⟨some ⟨w2.heap.size, 0, none⟩, 2, 2⟩ [(97, 0, 0), (0, 3, 1)] := ⟨rfl, VRow.of (Blk.new w2 _ _) rfl⟩
  refine (c_Unparts P3 (by decide) (by decide)).mono ?_
  rintro r4 r5 w6 ⟨h4, e6⟩
  have u1 : unR [(97, 0, 0), (0, 3, 1)] = (⟨#[97, 97, 97, 97]⟩, 0) := by decide +kernel
  rw [u1] at h4
  obtain ⟨rfl, rfl⟩ := Prod.mk.inj h4
  refine Nw.of ?_
  have e7 := (Ext.refl (fun _ => False) w6).alloc (.cells #[.int .u8 0, .int .i64 3, .int .i64 1] 34)
  have P7 : PV (w6.alloc (.cells #[.int .u8 0, .int .i64 3, .int .i64 1] 34)) ⟨some ⟨w6.heap.size, 0, none⟩, 1, 1⟩ [(0, 3, 1)] := ⟨rfl, VRow.of (Blk.new w6 _ _) rfl⟩
  refine (c_Unparts P7 (by decide) (by decide)).mono ?_
  rintro r8 r9 w10 ⟨h8, e10⟩
  have u2 : unR [(0, 3, 1)] = (⟨#[]⟩, 14) := by decide +kernel
  rw [u2] at h8
  obtain ⟨rfl, rfl⟩ := Prod.mk.inj h8
  refine (c_Sign 12 w10).mono ?_
  rintro a b c d w15 ⟨h, e15⟩
  rw [show sgnF 12 = (265, 1, 1, 0) by decide +kernel] at h
  simp only [Prod.mk.injEq] at h
  obtain ⟨rfl, rfl, rfl, rfl⟩ := h
  refine (c_Sign 258 w15).mono ?_
  rintro a b c d w20 ⟨h, e20⟩
  rw [show sgnF 258 = (285, 0, 0, 0) by decide +kernel] at h
  simp only [Prod.mk.injEq] at h
  obtain ⟨rfl, rfl, rfl, rfl⟩ := h
  refine (c_Back 32768 w20).mono ?_
  rintro a b c d w25 ⟨h, e25⟩
  rw [show bckF 32768 = (29, 8191, 13, 0) by decide +kernel] at h
  simp only [Prod.mk.injEq] at h
  obtain ⟨rfl, rfl, rfl, rfl⟩ := h
  refine (c_All0 (S := ⟨#[]⟩) (by decide) w25).mono ?_ fun _ _ h => h
  rintro r26 r27 w28 ⟨rfl, rfl, e28⟩
  refine (c_All3 (⟨#[]⟩) (lv := 3) (by decide) w28).mono ?_ fun _ _ h => h
  rintro r29 r30 w31 ⟨rfl, rfl, e31⟩
  have eA : (storedT (⟨#[]⟩ : ByteArray).data.toList) = [1, 0, 0, 255, 255] := by decide +kernel
  rw [eA]
  have hE : Ext (fun _ => False) w w31 := (((((((((he.tr e3).tr e6).tr e7).tr e10).tr e15).tr e20).tr e25).tr e28).tr e31)
  have hP31 := (((((((((hP.keep e3).keep e6).keep e7).keep e10).keep e15).keep e20).keep e25).keep e28).keep e31)
  have hl : ((r1.len : Nat) : Int) = 4 := by rw [hP31.1]; rfl
  obtain ⟨a, ha, c0, c1, c2⟩ := hP31.get (i := 3) (o := (0, 5, 3)) rfl
  rw [hl, ha]
  refine Br.t rfl ⟨by decide, by omega, Nn.of ?_⟩
  refine Ld.mk (x := 0) c0 (Ld.mk (x := 5) c1 (Ld.mk (x := 3) c2 ?_))
  refine Br.t rfl ?_
  iterate 15 refine Br.t (by first | exact beq_self_eq_true _ | decide) ?_
  exact ⟨rfl, hE⟩
theorem signs_law (a b : Int) (w : World) : C7 a b w (fun r w1 => r = true ∧ Ext (fun _ => False) w w1) (fun _ _ => False) := by
  refine T7 _ _ _ _ _ ?_
  unfold S7
  refine (c_Sign a w).mono ?_
  rintro a1 a2 a3 a4 w1 ⟨h1, e1⟩
  refine (r_Sign a w1).mono ?_
  rintro b1 b2 b3 b4 w2 ⟨h2, e2⟩
  rw [← h1] at h2
  simp only [Prod.mk.injEq] at h2
  obtain ⟨rfl, rfl, rfl, rfl⟩ := h2
  refine Br.ne (fun h => absurd rfl h) fun _ => Br.ne (fun h => absurd rfl h) fun _ => Br.ne (fun h => absurd rfl h) fun _ => Br.ne (fun h => absurd rfl h) fun _ => ?_
  refine (c_Back b w2).mono ?_
  rintro c1 c2 c3 c4 w3 ⟨h3, e3⟩
  refine (r_Back b w3).mono ?_
  rintro d1 d2 d3 d4 w4 ⟨h4, e4⟩
  rw [← h3] at h4
  simp only [Prod.mk.injEq] at h4
  obtain ⟨rfl, rfl, rfl, rfl⟩ := h4
  refine Br.ne (fun h => absurd rfl h) fun _ => Br.ne (fun h => absurd rfl h) fun _ => Br.ne (fun h => absurd rfl h) fun _ => Br.ne (fun h => absurd rfl h) fun _ => ?_
  have hE := ((e1.tr e2).tr e3).tr e4
  refine ⟨fun _ w5 => Ext (fun _ => False) w w5, ?_, ?_⟩
  · rintro _ w5 he5
    unfold S7J1
    refine Br.eq (fun q => ?_) fun q => (lives w5).mono (fun r w6 h => ⟨h.1, he5.tr h.2⟩) fun _ _ h => h
    refine (c_Far _ _ w5).mono ?_
    rintro r e w6 ⟨h, e6⟩
    have hb : ¬ (b < 1 ∨ 32768 < b) := fun hh => by
      unfold bckF at h3
      rw [if_pos hh] at h3
      have := congrArg (fun z => z.2.2.2) h3
      dsimp only at this
      omega
    have fb := far_back hb
    rw [← h3] at fb
    dsimp only at fb
    rw [fb] at h
    obtain ⟨rfl, rfl⟩ := Prod.mk.inj h
    refine Br.ne (fun h => absurd rfl h) fun _ => Br.ne (fun h => absurd rfl h) fun _ => ?_
    exact (lives w6).mono (fun r w7 h => ⟨h.1, (he5.tr e6).tr h.2⟩) fun _ _ h => h
  · refine Br.eq (fun q => ?_) fun q => hE
    refine (c_Size _ _ w4).mono ?_
    rintro r e w6 ⟨h, e6⟩
    have hb : ¬ (a < 3 ∨ 258 < a) := fun hh => by
      unfold sgnF at h1
      rw [if_pos hh] at h1
      have := congrArg (fun z => z.2.2.2) h1
      dsimp only at this
      omega
    have fb := size_back hb
    rw [← h1] at fb
    dsimp only at fb
    rw [fb] at h
    obtain ⟨rfl, rfl⟩ := Prod.mk.inj h
    refine Br.ne (fun h => absurd rfl h) fun _ => Br.ne (fun h => absurd rfl h) fun _ => hE.tr e6
theorem unparts_law {s : Slc} {L : List Qr} {w : World} (h : PV w s L) (hm : L.length ≤ maxLen) (hw : ∀ q ∈ L, 0 ≤ q.1 ∧ q.1 ≤ 255) : C5 s w (fun r w1 => r = true ∧ Ext (fun _ => False) w w1) (fun _ _ => False) := by
  refine T5 _ _ _ _ ?_
  unfold S5
  rw [h.1]
  refine Br.dec (fun _ => lives w) fun hlen => ?_
  refine ⟨fun m st w3 => ∃ i : Nat, st.2 = (i : Int) ∧ i ≤ L.length ∧ m = L.length - i ∧ Row w3 st.1 34 3 ((L.take i).flatMap prow) ∧ Ext (fun _ => False) w w3 ∧ ∀ j, st.1.own j → w.heap.size ≤ j, L.length, ⟨0, rfl, Nat.zero_le _, rfl, Row.nil _ _ _, Ext.refl _ _, fun j hj => by obtain ⟨a, ha, _⟩ := hj; cases ha⟩, ?_⟩
  rintro m ⟨sl, i'⟩ w3 ⟨i, hi', hi, rfl, hr, he, ho⟩
  simp only at hi' hr ho
  subst hi'
  unfold S5L1
  dsimp only
  rw [h.1]
  refine Br.dec (fun q => ?_) fun q => ?_
  · have hil : i < L.length := by omega
    obtain ⟨⟨b, n, f⟩, hio, hmem, _⟩ := drop_at hil
    refine ⟨fun w' => PV w' s L, (h.keep he).keep (Ext.refl _ _).drew, by omega, by omega, ?_⟩
    obtain ⟨a, ha, _⟩ := (h.keep he).get hio
    have g : ∀ w', PV w' s L → w'.cell? (a.add (i * 3)) = some (.int .u8 b) ∧ w'.cell? ((a.add (i * 3)).add 1) = some (.int .i64 n) ∧ w'.cell? ((a.add (i * 3)).add 2) = some (.int .i64 f) := fun w' hw' => by
      obtain ⟨a', ha', c⟩ := hw'.get hio
      rw [ha] at ha'
      cases ha'
      exact c
    rw [ha, Int.toNat_natCast]
    refine Nn.of (LdS.mk (x := b) (fun w' hw' => (g w' hw').1) ⟨by omega, by omega, Nn.of (LdS.mk (x := n) (fun w' hw' => (g w' hw').2.1) ⟨by omega, by omega, Nn.of (LdS.mk (x := f) (fun w' hw' => (g w' hw').2.2) ?_)⟩)⟩)
    have hd := (Ext.refl (fun _ => False) w3).drew
    refine pushP elP (D := L.take i) (hr.keep hd fun _ _ h => h) (by rw [List.length_take]; omega) (b, n, f) fun s' w' r1 r2 r3 => ?_
    have z := he.size
    refine ⟨L.length - (i + 1), by omega, i + 1, by rw [i64_id (by omega)]; rfl, by omega, rfl, ?_, (he.tr hd).trans r2 (fun _ h => h) fun j hj e => by have := ho j e; omega, fun j hj => ?_⟩
    · rw [List.take_add_one, hio]
      exact r1
    · rcases r3 j hj with e | e
      · exact ho j e
      · exact Nat.le_trans z e
  · have : i = L.length := by omega
    subst this
    rw [List.take_length] at hr
    refine (c_Unparts (row_pv hr) hw (by omega)).mono ?_
    rintro x1 x2 w4 ⟨h4, e4⟩
    refine (r_Unparts ((h.keep he).keep e4) hw (by omega)).mono ?_
    rintro y1 y2 w5 ⟨h5, e5⟩
    rw [← h4] at h5
    obtain ⟨rfl, rfl⟩ := Prod.mk.inj h5
    refine Br.eq (fun _ => Br.eq (fun _ => ?_) fun h => absurd rfl h) fun h => absurd rfl h
    exact (lives w5).mono (fun r w6 h => ⟨h.1, ((he.tr e4).tr e5).tr h.2⟩) fun _ _ h => h
theorem partsS_back (s : List UInt8) (h : s.length ≤ 1048576) : unR ((partsS s).map rawP) = (⟨s.toArray⟩, 0) := by
  obtain ⟨a, b⟩ := partsS_fit s
  unfold unR
  rw [unQ_fit _ _ a (by rw [b]; exact h), b]
theorem partsQ_wf (s : List UInt8) : ∀ q ∈ (partsS s).map rawP, 0 ≤ q.1 ∧ q.1 ≤ 255 := fun q hq => by
  obtain ⟨p, _, rfl⟩ := List.mem_map.1 hq
  have := p.b.toNat_lt
  exact ⟨by show 0 ≤ ((p.b.toNat : Nat) : Int); omega, by show ((p.b.toNat : Nat) : Int) ≤ 255; omega⟩
theorem parts_law (S : ByteArray) (w : World) : C4 S w (fun r w1 => r = true ∧ Ext (fun _ => False) w w1) (fun _ _ => False) := by
  have hsz : S.data.toList.length = S.size := (size_list S).symm
  refine T4 _ _ _ _ ?_
  unfold S4
  refine Br.dec (fun _ => lives w) fun hlen => ?_
  refine (c_Parts (S := S) (by omega) w).mono ?_
  rintro r6 w7 ⟨P6, e7⟩
  refine (r_Parts (S := S) (by omega) w7).mono ?_
  rintro r8 w9 ⟨P8, e9⟩
  have P6 := P6.keep e9
  have hpl : (partsS S.data.toList).length ≤ S.data.toList.length := partsF_len _ _ _
  have back := partsS_back S.data.toList (by omega)
  have hwf := partsQ_wf S.data.toList
  have hl : ((partsS S.data.toList).map rawP).length ≤ 600 := by rw [List.length_map]; omega
  generalize (partsS S.data.toList).map rawP = L at P6 P8 back hwf hl
  rw [P6.1, P8.1]
  refine Br.ne (fun h => absurd rfl h) fun _ => ?_
  refine ⟨fun m st w3 => ∃ i : Nat, st = (i : Int) ∧ i ≤ L.length ∧ m = L.length - i ∧ Ext (fun _ => False) w9 w3, L.length, ⟨0, rfl, Nat.zero_le _, rfl, Ext.refl _ _⟩, ?_⟩
  rintro m st w3 ⟨i, rfl, hi, rfl, he⟩
  unfold S4L1
  rw [P6.1, P8.1]
  refine Br.dec (fun q => ?_) fun q => ?_
  · have hil : i < L.length := by omega
    obtain ⟨⟨b, n, f⟩, hio, hmem, _⟩ := drop_at hil
    obtain ⟨a, ha, c0, c1, c2⟩ := (P6.keep he.drew).get hio
    obtain ⟨a', ha', d0, d1, d2⟩ := (P8.keep he.drew).get hio
    rw [ha, ha', Int.toNat_natCast]
    refine ⟨by omega, by omega, Nn.of (Ld.mk (x := b) c0 ⟨by omega, by omega, Nn.of (Ld.mk (x := b) d0 ?_)⟩)⟩
    refine Br.ne (fun h => absurd rfl h) fun _ => ?_
    refine ⟨by omega, by omega, Nn.of (Ld.mk (x := n) c1 ⟨by omega, by omega, Nn.of (Ld.mk (x := n) d1 ?_)⟩)⟩
    refine Br.ne (fun h => absurd rfl h) fun _ => ?_
    refine ⟨by omega, by omega, Nn.of (Ld.mk (x := f) c2 ⟨by omega, by omega, Nn.of (Ld.mk (x := f) d2 ?_)⟩)⟩
    refine Br.ne (fun h => absurd rfl h) fun _ => ?_
    exact ⟨L.length - (i + 1), by omega, i + 1, by rw [i64_id (by omega)]; rfl, by omega, rfl, he.drew⟩
  · refine (c_Unparts (P6.keep he) hwf (by omega)).mono ?_
    rintro x1 x2 w4 ⟨h4, e4⟩
    rw [back] at h4
    obtain ⟨rfl, rfl⟩ := Prod.mk.inj h4
    refine Br.eq (fun _ => Br.eq (fun _ => ?_) fun h => absurd rfl h) fun h => absurd rfl h
    exact (lives w4).mono (fun r w6 h => ⟨h.1, (((e7.tr e9).tr he).tr e4).tr h.2⟩) fun _ _ h => h
end Inf
end Go.Proofs.Ytjkoafjnmkchdaa

/- Deflate: the law DeflateStored. No condition. -/
namespace Go.Proofs.Ytjkoafjnmkchdaa
namespace Inf
open Sh Bit
set_option linter.unusedVariables false
set_option linter.unusedSimpArgs false
set_option maxRecDepth 4000
set_option maxHeartbeats 1000000
attribute [local irreducible] Ld Nw Nn Lt LdS
theorem elB : El Try.prog 40 5 1 1 (.int .u8 0) := ⟨by kernel_rfl, by kernel_rfl, by kernel_rfl, by kernel_rfl, rfl⟩
theorem flat_b : ∀ n : Nat, (List.replicate n [Value.int .u8 0]).flatten = bcs (List.replicate n 0)
  | 0 => rfl
  | n + 1 => by
    rw [List.replicate_succ, List.flatten_cons, flat_b n]
    rfl
theorem stored_law {n c : Int} (hc : 0 ≤ c ∧ c ≤ 255) (w : World) : C6 n c w (fun r w1 => r = true ∧ Ext (fun _ => False) w w1) (fun _ _ => False) := by
  refine T6 _ _ _ _ _ ?_
  unfold S6
  refine Br.dec (fun _ => lives w) fun h0 => Br.dec (fun _ => lives w) fun h1 => ?_
  obtain ⟨n, rfl⟩ : ∃ m : Nat, n = (m : Int) := ⟨n.toNat, by omega⟩
  obtain ⟨w2, hrun, hw2⟩ := elB.make (zs := [.int .u8 0]) rfl w n (by omega) (by omega)
  refine ⟨_, w2, hrun, ?_⟩
  rw [flat_b] at hw2
  have he2 : Ext (fun _ => False) w w2 := by rw [hw2]; exact (Ext.refl _ _).alloc _
  have hr2 : BRow w2 ⟨some ⟨w.heap.size, 0, none⟩, n, n⟩ (List.replicate n 0) := by
    rw [hw2]
    exact ⟨by rw [bcs_len, List.length_replicate, Nat.mul_one], .inr ⟨_, _, rfl, Blk.new w _ _, Nat.le_refl _, by simp [bcs_len], by simp [List.take_of_length_le, bcs_len]⟩⟩
  refine ⟨fun m st w3 => ∃ (i : Nat) (l : List UInt8), st = (i : Int) ∧ i ≤ n ∧ m = n - i ∧ l.length = n ∧ BRow w3 ⟨some ⟨w.heap.size, 0, none⟩, n, n⟩ l ∧ Ext (fun _ => False) w w3, n, ⟨0, _, rfl, Nat.zero_le _, rfl, List.length_replicate, hr2, he2⟩, ?_⟩
  rintro m st w3 ⟨i, l, rfl, hi, rfl, hl, hr, he⟩
  unfold S6L1
  dsimp only
  refine Br.dec (fun q => ?_) fun q => ?_
  · refine ⟨by omega, by omega, Nn.of ?_⟩
    obtain ⟨g, hg, hcan, hrow, hext⟩ := hr.set (i := i) (by omega) (UInt8.ofNat c.toNat)
    have hgw : g = w.heap.size := by
      have : (⟨w.heap.size, 0, none⟩ : Addr) = ⟨g, 0, none⟩ := Option.some.inj hg
      exact (Addr.mk.inj this).1.symm
    have hcc : ((UInt8.ofNat c.toNat).toNat : Int) = c := by rw [of_toNat (by omega)]; omega
    rw [hcc] at hrow hext
    have ea : ((⟨w.heap.size, 0, none⟩ : Addr).add ((i : Int).toNat * 1)) = ⟨g, i, none⟩ := by
      rw [hgw, Int.toNat_natCast, Nat.mul_one, add_lit, Nat.zero_add]
    rw [ea]
    refine ⟨hcan, n - (i + 1), by omega, i + 1, l.set i (UInt8.ofNat c.toNat), by rw [i64_id (by omega)]; rfl, by omega, rfl, by rw [List.length_set]; exact hl, hrow, ?_⟩
    exact he.trans hext (fun _ h => h) fun j hj e => by omega
  · have hsz : (⟨l.toArray⟩ : ByteArray).size = n := by show l.toArray.size = n; simp [hl]
    refine ⟨_, w3, str_row hr, ?_⟩
    refine (c_All0 (S := ⟨l.toArray⟩) (by omega) w3).mono ?_ fun _ _ h => h
    rintro r e w4 ⟨rfl, rfl, e4⟩
    refine ⟨_, w4, str_row (hr.keep e4 fun _ _ h => h), ?_⟩
    refine (r_AllS (S := ⟨l.toArray⟩) (lv := 0) (by decide) (by decide) (by omega) w4).mono ?_
    rintro r e w5 ⟨rfl, rfl, e5⟩
    refine Br.t rfl (Br.t rfl (Br.t (beq_self_eq_true _) ?_))
    exact (lives w5).mono (fun r w6 h => ⟨h.1, ((he.tr e4).tr e5).tr h.2⟩) fun _ _ h => h
end Inf
end Go.Proofs.Ytjkoafjnmkchdaa
