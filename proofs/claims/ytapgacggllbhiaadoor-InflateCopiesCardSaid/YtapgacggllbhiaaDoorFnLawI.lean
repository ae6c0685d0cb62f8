/- The formulas of 5 functions of the program, written by program (gen.py); the kernel checks each. No condition. -/
import Derived.Test.YtapgacggllbhiaaDoorFn
import Derived.Test.YtapgacggllbhiaaDoorFnBit
import Derived.Test.YtapgacggllbhiaaDoorFnCode
import Derived.Test.YtapgacggllbhiaaDoorFnInf
namespace Go.Proofs.YtapgacggllbhiaaDoor
open Sh
set_option linter.unusedVariables false
set_option maxRecDepth 100000

def C8 (w : World) (R : Bool → World → Prop) (PR : Value → World → Prop) : Prop :=
  Calls Tryd.prog 8 #[] w fun e w' => (∃ r0 : Bool, e = .returned (.bool r0) ∧ R r0 w') ∨ ∃ v, e = .panicked (onePanic v) ∧ PR v w'
theorem C8.mono {w : World} {R R' : Bool → World → Prop} {PR PR' : Value → World → Prop} (h : C8 w R PR) (hr : ∀ r0 w', R r0 w' → R' r0 w') (hp : ∀ v w', PR v w' → PR' v w') : C8 w R' PR' :=
  Calls.mono h fun _ _ he => he.elim (fun ⟨r0, he, hR⟩ => .inl ⟨r0, he, hr _ _ hR⟩) fun ⟨v, he, hP⟩ => .inr ⟨v, he, hp _ _ hP⟩
def C3 (s1 : ByteArray) (most2 : Int) (sign3 : Int) (more4 : Int) (w : World) (R : Bool → World → Prop) (PR : Value → World → Prop) : Prop :=
  Calls Tryd.prog 3 #[.string s1, .int .i64 most2, .int .i64 sign3, .int .i64 more4] w fun e w' => (∃ r0 : Bool, e = .returned (.bool r0) ∧ R r0 w') ∨ ∃ v, e = .panicked (onePanic v) ∧ PR v w'
theorem C3.mono {s1 : ByteArray} {most2 : Int} {sign3 : Int} {more4 : Int} {w : World} {R R' : Bool → World → Prop} {PR PR' : Value → World → Prop} (h : C3 s1 most2 sign3 more4 w R PR) (hr : ∀ r0 w', R r0 w' → R' r0 w') (hp : ∀ v w', PR v w' → PR' v w') : C3 s1 most2 sign3 more4 w R' PR' :=
  Calls.mono h fun _ _ he => he.elim (fun ⟨r0, he, hR⟩ => .inl ⟨r0, he, hr _ _ hR⟩) fun ⟨v, he, hP⟩ => .inr ⟨v, he, hp _ _ hP⟩
def C4 (parts1 : Slc) (w : World) (R : Bool → World → Prop) (PR : Value → World → Prop) : Prop :=
  Calls Tryd.prog 4 #[Slc.v parts1] w fun e w' => (∃ r0 : Bool, e = .returned (.bool r0) ∧ R r0 w') ∨ ∃ v, e = .panicked (onePanic v) ∧ PR v w'
theorem C4.mono {parts1 : Slc} {w : World} {R R' : Bool → World → Prop} {PR PR' : Value → World → Prop} (h : C4 parts1 w R PR) (hr : ∀ r0 w', R r0 w' → R' r0 w') (hp : ∀ v w', PR v w' → PR' v w') : C4 parts1 w R' PR' :=
  Calls.mono h fun _ _ he => he.elim (fun ⟨r0, he, hR⟩ => .inl ⟨r0, he, hr _ _ hR⟩) fun ⟨v, he, hP⟩ => .inr ⟨v, he, hp _ _ hP⟩
def C5 (s1 : ByteArray) (more2 : ByteArray) (most3 : Int) (vby4 : Int) (w : World) (R : Bool → World → Prop) (PR : Value → World → Prop) : Prop :=
  Calls Tryd.prog 5 #[.string s1, .string more2, .int .i64 most3, .int .i64 vby4] w fun e w' => (∃ r0 : Bool, e = .returned (.bool r0) ∧ R r0 w') ∨ ∃ v, e = .panicked (onePanic v) ∧ PR v w'
theorem C5.mono {s1 : ByteArray} {more2 : ByteArray} {most3 : Int} {vby4 : Int} {w : World} {R R' : Bool → World → Prop} {PR PR' : Value → World → Prop} (h : C5 s1 more2 most3 vby4 w R PR) (hr : ∀ r0 w', R r0 w' → R' r0 w') (hp : ∀ v w', PR v w' → PR' v w') : C5 s1 more2 most3 vby4 w R' PR' :=
  Calls.mono h fun _ _ he => he.elim (fun ⟨r0, he, hR⟩ => .inl ⟨r0, he, hr _ _ hR⟩) fun ⟨v, he, hP⟩ => .inr ⟨v, he, hp _ _ hP⟩
def C6 (w : World) (R : Bool → World → Prop) (PR : Value → World → Prop) : Prop :=
  Calls Tryd.prog 6 #[] w fun e w' => (∃ r0 : Bool, e = .returned (.bool r0) ∧ R r0 w') ∨ ∃ v, e = .panicked (onePanic v) ∧ PR v w'
theorem C6.mono {w : World} {R R' : Bool → World → Prop} {PR PR' : Value → World → Prop} (h : C6 w R PR) (hr : ∀ r0 w', R r0 w' → R' r0 w') (hp : ∀ v w', PR v w' → PR' v w') : C6 w R' PR' :=
  Calls.mono h fun _ _ he => he.elim (fun ⟨r0, he, hR⟩ => .inl ⟨r0, he, hr _ _ hR⟩) fun ⟨v, he, hP⟩ => .inr ⟨v, he, hp _ _ hP⟩

/-- foliant/foliantlaw11.lives -/
def S8 (w : World) (R : Bool → World → Prop) (PR : Value → World → Prop) : Prop :=
  C9 (⟨#[1, 2, 0, 253, 255, 97, 98]⟩ : ByteArray) 10 w fun r1 r2 r3 vw4 =>
    C9 (⟨#[75, 4, 0]⟩ : ByteArray) 1 vw4 fun r5 r6 r7 vw8 =>
      C9 (⟨#[75, 4, 0]⟩ : ByteArray) 0 vw8 fun r9 r10 r11 vw12 =>
        C9 (⟨#[7]⟩ : ByteArray) 10 vw12 fun r13 r14 r15 vw16 =>
          C9 (⟨#[]⟩ : ByteArray) 10 vw16 fun r17 r18 r19 vw20 =>
            C9 (⟨#[1, 2, 0, 253, 254, 97, 98]⟩ : ByteArray) 10 vw20 fun r21 r22 r23 vw24 =>
              C9 (⟨#[]⟩ : ByteArray) (-1) vw24 fun r25 r26 r27 vw28 =>
                C11 284 31 vw28 fun r29 r30 vw31 =>
                  C11 285 0 vw31 fun r32 r33 vw34 =>
                    C11 285 1 vw34 fun r35 r36 vw37 =>
                      C13 29 8191 vw37 fun r38 r39 vw40 =>
                        C13 30 0 vw40 fun r41 r42 vw43 =>
                          C15 vw43 (fun r44 r45 vw46 =>
                            Br (!(r1.toList == (⟨#[97, 98]⟩ : ByteArray).toList)) (R false vw46) (Br (r2 != 7) (R false vw46) (Br (r3 != 0) (R false vw46) (Br (!(r5.toList == (⟨#[97]⟩ : ByteArray).toList)) (R false vw46) (Br (r6 != 3) (R false vw46) (Br (r7 != 0) (R false vw46) (Br (r11 != 5) (R false vw46) (Br (r15 != 3) (R false vw46) (Br (r19 != 4) (R false vw46) (Br (r23 != 3) (R false vw46) (Br (r27 != 1) (R false vw46) (Br (r29 == 258) (Br (r30 == 0) (Br (r32 == 258) (Br (r33 == 0) (Br (r36 == 1) (Br (r38 == 32768) (Br (r39 == 0) (Br (r42 == 1) (Br (((r44.len : Nat) : Int) == 288) (Br (((r45.len : Nat) : Int) == 32) (0 ≤ (143 : Int) ∧ (143 : Int) < (r44.len : Nat) ∧ Nn r44.p fun a47 =>
                                                                      Ld vw46 (a47.add (((143 : Int)).toNat * 1)) (Value.int .i64) fun (x48 : Int) =>
                                                                      Br (x48 == 8) (0 ≤ (144 : Int) ∧ (144 : Int) < (r44.len : Nat) ∧ Nn r44.p fun a49 =>
                                                                        Ld vw46 (a49.add (((144 : Int)).toNat * 1)) (Value.int .i64) fun (x50 : Int) =>
                                                                        Br (x50 == 9) (0 ≤ (256 : Int) ∧ (256 : Int) < (r44.len : Nat) ∧ Nn r44.p fun a51 =>
                                                                          Ld vw46 (a51.add (((256 : Int)).toNat * 1)) (Value.int .i64) fun (x52 : Int) =>
                                                                          Br (x52 == 7) (0 ≤ (287 : Int) ∧ (287 : Int) < (r44.len : Nat) ∧ Nn r44.p fun a53 =>
                                                                            Ld vw46 (a53.add (((287 : Int)).toNat * 1)) (Value.int .i64) fun (x54 : Int) =>
                                                                            Br (x54 == 8) (0 ≤ (31 : Int) ∧ (31 : Int) < (r45.len : Nat) ∧ Nn r45.p fun a55 =>
                                                                              Ld vw46 (a55.add (((31 : Int)).toNat * 1)) (Value.int .i64) fun (x56 : Int) =>
                                                                              R (x56 == 5) vw46) (R false vw46)) (R false vw46)) (R false vw46)) (R false vw46)) (R false vw46)) (R false vw46)) (R false vw46)) (R false vw46)) (R false vw46)) (R false vw46)) (R false vw46)) (R false vw46)) (R false vw46)) (R false vw46))))))))))))) PR
def pl8 : Plan := (.seq (.reg .seq) (.seq (.reg .seq) (.seq (.reg .seq) (.seq (.reg .seq) (.seq (.reg .seq) (.seq (.reg .seq) (.seq (.reg .seq) (.seq (.reg .seq) (.seq (.reg .seq) (.seq (.reg .seq) (.seq (.reg .seq) (.seq (.reg .seq) (.seq (.reg .seq) (.seq (.reg .seq) (.seq (.seq (.reg .seq) (.cond (.seq (.reg .seq) .leaf) .leaf)) (.seq (.reg .seq) .leaf))))))))))))))))
set_option maxRecDepth 100000 in
theorem T8 (w : World) (R : Bool → World → Prop) (PR : Value → World → Prop) (h : S8 w R PR) : C8 w R PR := by
  have e : fnT Tryd.prog ⟨FF, MAY, PR⟩ pl8 Tryd.f8 [] w [(.one .bool)] (fun s w => R s w) = S8 w R PR := by kernel_rfl
  exact (fn_callsP okF okM Tryd.func8 (by kernel_rfl) (by kernel_rfl) (e.mpr h)).mono fun _ _ he => he.elim (fun ⟨s, he, hR⟩ => .inl ⟨s, he, hR⟩) .inr

/-- foliant/foliantlaw11.InflateTells -/
def S3 (s1 : ByteArray) (most2 : Int) (sign3 : Int) (more4 : Int) (w : World) (R : Bool → World → Prop) (PR : Value → World → Prop) : Prop :=
  Br (decide ((((s1).size : Nat) : Int) > 400)) (C8 w (fun r7 vw8 =>
      R r7 vw8) PR) (C9 s1 most2 w fun r9 r10 r11 vw12 =>
      C10 s1 most2 vw12 fun r13 r14 r15 vw16 =>
        C11 sign3 more4 vw16 fun r17 r18 vw19 =>
          C12 sign3 more4 vw19 fun r20 r21 vw22 =>
            C13 sign3 more4 vw22 fun r23 r24 vw25 =>
              C14 sign3 more4 vw25 fun r26 r27 vw28 =>
                C15 vw28 (fun r29 r30 vw31 =>
                  C16 vw31 fun r32 r33 vw34 =>
                    Br (r9.toList == r13.toList) (Br (r10 == r14) (Br (r11 == r15) (Br (r17 == r20) (Br (r18 == r21) (Br (r23 == r26) (Br (r24 == r27) (C17 r29 r32 vw34 fun r35 vw36 =>
                                    Br r35 (C17 r30 r33 vw36 fun r37 vw38 =>
                                        Br r37 (C8 vw38 (fun r39 vw40 =>
                                            R r39 vw40) PR) (R false vw38)) (R false vw36)) (R false vw34)) (R false vw34)) (R false vw34)) (R false vw34)) (R false vw34)) (R false vw34)) (R false vw34)) PR)
def pl3 : Plan := (.seq (.reg .seq) (.seq (.seq (.reg .seq) (.cond (.seq (.reg .seq) .leaf) .leaf)) (.seq (.reg .seq) (.seq (.reg .seq) (.seq (.reg .seq) (.seq (.reg .seq) (.seq (.reg .seq) (.seq (.reg .seq) (.seq (.reg .seq) (.seq (.reg .seq) (.seq (.reg .seq) .leaf)))))))))))
set_option maxRecDepth 100000 in
theorem T3 (s1 : ByteArray) (most2 : Int) (sign3 : Int) (more4 : Int) (w : World) (R : Bool → World → Prop) (PR : Value → World → Prop) (h : S3 s1 most2 sign3 more4 w R PR) : C3 s1 most2 sign3 more4 w R PR := by
  have e : fnT Tryd.prog ⟨FF, MAY, PR⟩ pl3 Tryd.f3 [.string s1, .int .i64 most2, .int .i64 sign3, .int .i64 more4] w [(.one .bool)] (fun s w => R s w) = S3 s1 most2 sign3 more4 w R PR := by kernel_rfl
  exact (fn_callsP okF okM Tryd.func3 (by kernel_rfl) (by kernel_rfl) (e.mpr h)).mono fun _ _ he => he.elim (fun ⟨s, he, hR⟩ => .inl ⟨s, he, hR⟩) .inr

def S4L1 (parts1 : Slc) (R : Bool → World → Prop) (I21 : (ByteArray × ByteArray × Int) → World → Prop) (s19 : ByteArray × ByteArray × Int) (vw20 : World) : Prop :=
  Br (decide (s19.2.2 < ((parts1.len : Nat) : Int))) (0 ≤ s19.2.2 ∧ s19.2.2 < (parts1.len : Nat) ∧ Nn parts1.p fun a22 =>
    Ld vw20 (a22.add ((s19.2.2).toNat * 1)) Value.string fun (x23 : ByteArray) =>
    Br (decide ((((x23).size : Nat) : Int) > 300)) (R true vw20) (Br (s19.2.2 == (IntKind.i64.wrap (((parts1.len : Nat) : Int) - 1))) (Lt (IntKind.u8.wrap (IntKind.i64.wrap (255 - (IntKind.i64.wrap (Int.tdiv (((x23).size : Nat) : Int) 256))))) fun (x24 : Int) =>
        Nw vw20 (.cells #[.int .u8 1, .int .u8 (IntKind.u8.wrap (Int.tmod (((x23).size : Nat) : Int) 256)), .int .u8 (IntKind.u8.wrap (IntKind.i64.wrap (Int.tdiv (((x23).size : Nat) : Int) 256))), .int .u8 (IntKind.u8.wrap (IntKind.i64.wrap (255 - (Int.tmod (((x23).size : Nat) : Int) 256)))), .int .u8 x24] 5) fun vw25 =>
        Rn Tryd.prog (convert 34 9 (Slc.v ((⟨some ⟨vw20.heap.size, 0, none⟩, 5, 5⟩ : Slc)))) vw25 Value.string fun (x26 : ByteArray) vw27 =>
        (((x26).size + (x23).size : Nat) : Int) ≤ IntKind.i64.max ∧ (((s19.1).size + (x26 ++ x23).size : Nat) : Int) ≤ IntKind.i64.max ∧ (((s19.2.1).size + (x23).size : Nat) : Int) ≤ IntKind.i64.max ∧ I21 (s19.1 ++ (x26 ++ x23), s19.2.1 ++ x23, IntKind.i64.wrap (s19.2.2 + 1)) vw27) (Lt (IntKind.u8.wrap (IntKind.i64.wrap (255 - (IntKind.i64.wrap (Int.tdiv (((x23).size : Nat) : Int) 256))))) fun (x28 : Int) =>
        Nw vw20 (.cells #[.int .u8 0, .int .u8 (IntKind.u8.wrap (Int.tmod (((x23).size : Nat) : Int) 256)), .int .u8 (IntKind.u8.wrap (IntKind.i64.wrap (Int.tdiv (((x23).size : Nat) : Int) 256))), .int .u8 (IntKind.u8.wrap (IntKind.i64.wrap (255 - (Int.tmod (((x23).size : Nat) : Int) 256)))), .int .u8 x28] 5) fun vw29 =>
        Rn Tryd.prog (convert 34 9 (Slc.v ((⟨some ⟨vw20.heap.size, 0, none⟩, 5, 5⟩ : Slc)))) vw29 Value.string fun (x30 : ByteArray) vw31 =>
        (((x30).size + (x23).size : Nat) : Int) ≤ IntKind.i64.max ∧ (((s19.1).size + (x30 ++ x23).size : Nat) : Int) ≤ IntKind.i64.max ∧ (((s19.2.1).size + (x23).size : Nat) : Int) ≤ IntKind.i64.max ∧ I21 (s19.1 ++ (x30 ++ x23), s19.2.1 ++ x23, IntKind.i64.wrap (s19.2.2 + 1)) vw31))) (C9 s19.1 (((s19.2.1).size : Nat) : Int) vw20 fun r32 r33 r34 vw35 =>
      Br (r32.toList == s19.2.1.toList) (Br (r33 == (((s19.1).size : Nat) : Int)) (R (r34 == 0) vw35) (R false vw35)) (R false vw35))
/-- foliant/foliantlaw11.InflateStored -/
def S4 (parts1 : Slc) (w : World) (R : Bool → World → Prop) (PR : Value → World → Prop) : Prop :=
  C8 w (fun r4 vw5 =>
    Br (!r4) (R false vw5) (Br (((parts1.len : Nat) : Int) == 0) (R true vw5) (Br (decide (((parts1.len : Nat) : Int) > 20)) (R true vw5) (Lp (σ := ByteArray × ByteArray × Int) (S4L1 parts1 R) ((⟨#[]⟩ : ByteArray), (⟨#[]⟩ : ByteArray), 0) vw5)))) PR
def pl4 : Plan := (.seq (.reg .seq) (.seq (.seq (.reg .seq) (.cond (.seq (.reg .seq) .leaf) .leaf)) (.seq (.seq (.reg .seq) (.cond (.seq (.reg .seq) .leaf) .leaf)) (.seq (.reg .seq) (.seq (.seq (.reg .seq) (.block (.loop [(3, (.one .str)), (4, (.one .str)), (24, (.one (.int .i64)))] [0, 22, 23] (.seq (.reg .seq) (.seq (.cond .leaf .leaf) (.seq (.block (.seq (.reg .seq) (.seq (.seq (.reg .seq) (.cond (.seq (.reg .seq) .leaf) .leaf)) (.seq (.reg .seq) (.seq (.seq (.reg .seq) (.cond (.reg .seq) .leaf)) (.seq (.reg .seq) (.seq (.reg .seq) (.reg .seq)))))))) (.reg .seq))))))) (.seq (.reg .seq) (.seq (.reg .seq) .leaf)))))))
set_option maxRecDepth 100000 in
theorem T4 (parts1 : Slc) (w : World) (R : Bool → World → Prop) (PR : Value → World → Prop) (h : S4 parts1 w R PR) : C4 parts1 w R PR := by
  have e : fnT Tryd.prog ⟨FF, MAY, PR⟩ pl4 Tryd.f4 [Slc.v parts1] w [(.one .bool)] (fun s w => R s w) = S4 parts1 w R PR := by kernel_rfl
  exact (fn_callsP okF okM Tryd.func4 (by kernel_rfl) (by kernel_rfl) (e.mpr h)).mono fun _ _ he => he.elim (fun ⟨s, he, hR⟩ => .inl ⟨s, he, hR⟩) .inr

/-- foliant/foliantlaw11.InflateEnds -/
def S5 (s1 : ByteArray) (more2 : ByteArray) (most3 : Int) (vby4 : Int) (w : World) (R : Bool → World → Prop) (PR : Value → World → Prop) : Prop :=
  C8 w (fun r7 vw8 =>
    Br (!r7) (R false vw8) (Br (decide ((((s1).size : Nat) : Int) > 400)) (R true vw8) (Br (decide ((((more2).size : Nat) : Int) > 400)) (R true vw8) (Br (decide (vby4 < 0)) (R true vw8) (Br (decide (vby4 > 2000000)) (R true vw8) (Br (decide (most3 > 2000000)) (R true vw8) (C9 s1 most3 vw8 fun r9 r10 r11 vw12 =>
                  Br (r11 != 0) (Br (r9.toList == (⟨#[]⟩ : ByteArray).toList) (R (r10 == 0) vw12) (R false vw12)) (Br (decide (r10 < 1)) (R false vw12) (Br (decide (r10 > (((s1).size : Nat) : Int))) (R false vw12) (Br (decide ((((r9).size : Nat) : Int) > most3)) (R false vw12) (0 ≤ r10 ∧ r10 ≤ (((s1).size : Nat) : Int) ∧ (((s1.extract 0 ((r10).toNat)).size + (more2).size : Nat) : Int) ≤ IntKind.i64.max ∧ C9 ((s1.extract 0 ((r10).toNat)) ++ more2) (IntKind.i64.wrap (most3 + vby4)) vw12 fun r13 r14 r15 vw16 =>
                            0 ≤ (IntKind.i64.wrap (r10 - 1)) ∧ (IntKind.i64.wrap (r10 - 1)) ≤ (((s1).size : Nat) : Int) ∧ C9 (s1.extract 0 ((IntKind.i64.wrap (r10 - 1)).toNat)) most3 vw16 fun r17 r18 r19 vw20 =>
                              Br (r13.toList == r9.toList) (Br (r14 == r10) (Br (r15 == 0) (Br (r17.toList == (⟨#[]⟩ : ByteArray).toList) (Br (r18 == 0) (R (r19 == 4) vw20) (R false vw20)) (R false vw20)) (R false vw20)) (R false vw20)) (R false vw20)))))))))))) PR
def pl5 : Plan := (.seq (.reg .seq) (.seq (.seq (.reg .seq) (.cond (.seq (.reg .seq) .leaf) .leaf)) (.seq (.seq (.reg .seq) (.cond (.seq (.reg .seq) .leaf) .leaf)) (.seq (.reg .seq) (.seq (.seq (.reg .seq) (.cond (.seq (.reg .seq) .leaf) .leaf)) (.seq (.seq (.reg .seq) (.cond (.seq (.reg .seq) .leaf) .leaf)) (.seq (.reg .seq) (.seq (.reg .seq) (.seq (.reg .seq) .leaf)))))))))
set_option maxRecDepth 100000 in
theorem T5 (s1 : ByteArray) (more2 : ByteArray) (most3 : Int) (vby4 : Int) (w : World) (R : Bool → World → Prop) (PR : Value → World → Prop) (h : S5 s1 more2 most3 vby4 w R PR) : C5 s1 more2 most3 vby4 w R PR := by
  have e : fnT Tryd.prog ⟨FF, MAY, PR⟩ pl5 Tryd.f5 [.string s1, .string more2, .int .i64 most3, .int .i64 vby4] w [(.one .bool)] (fun s w => R s w) = S5 s1 more2 most3 vby4 w R PR := by kernel_rfl
  exact (fn_callsP okF okM Tryd.func5 (by kernel_rfl) (by kernel_rfl) (e.mpr h)).mono fun _ _ he => he.elim (fun ⟨s, he, hR⟩ => .inl ⟨s, he, hR⟩) .inr

def S6L1 (s10 : Int × Int) (I12 : (Int × Int) → World → Prop) (R : Bool → World → Prop) (I15 : (Int × Int) → World → Prop) (s13 : Int × Int) (vw14 : World) : Prop :=
  Br (decide (s13.2 < 64)) (C11 s10.2 s13.2 vw14 fun r16 r17 vw18 =>
      Br (r17 != 0) (I12 (s13.1, IntKind.i64.wrap (s10.2 + 1)) vw18) (Br (s10.2 == 285) (Br (r16 != 258) (R false vw18) (I15 (IntKind.i64.wrap (258 + 1), IntKind.i64.wrap (s13.2 + 1)) vw18)) (Br (r16 != s13.1) (R false vw18) (I15 (IntKind.i64.wrap (s13.1 + 1), IntKind.i64.wrap (s13.2 + 1)) vw18)))) (I12 (s13.1, IntKind.i64.wrap (s10.2 + 1)) vw14)
def S6L2 (s28 : Int × Int) (I30 : (Int × Int) → World → Prop) (R : Bool → World → Prop) (I33 : (Int × Int) → World → Prop) (s31 : Int × Int) (vw32 : World) : Prop :=
  Br (decide (s31.2 < 10000)) (C13 s28.2 s31.2 vw32 fun r34 r35 vw36 =>
      Br (r35 != 0) (I30 (s31.1, IntKind.i64.wrap (s28.2 + 1)) vw36) (Br (r34 != s31.1) (R false vw36) (I33 (IntKind.i64.wrap (s31.1 + 1), IntKind.i64.wrap (s31.2 + 1)) vw36))) (I30 (s31.1, IntKind.i64.wrap (s28.2 + 1)) vw32)
def S6L3 (s10 : Int × Int) (R : Bool → World → Prop) (PR : Value → World → Prop) (I30 : (Int × Int) → World → Prop) (s28 : Int × Int) (vw29 : World) : Prop :=
  Br (decide (s28.2 ≤ 29)) (Lp (σ := Int × Int) (S6L2 s28 I30 R) (s28.1, 0) vw29) (Br (s10.1 == 259) (Br (s28.1 == 32769) (C8 vw29 (fun r37 vw38 =>
          R r37 vw38) PR) (R false vw29)) (R false vw29))
def S6L4 (R : Bool → World → Prop) (PR : Value → World → Prop) (I12 : (Int × Int) → World → Prop) (s10 : Int × Int) (vw11 : World) : Prop :=
  Br (decide (s10.2 ≤ 285)) (Lp (σ := Int × Int) (S6L1 s10 I12 R) (s10.1, 0) vw11) (Lp (σ := Int × Int) (S6L3 s10 R PR) (1, 0) vw11)
/-- foliant/foliantlaw11.InflateCovers -/
def S6 (w : World) (R : Bool → World → Prop) (PR : Value → World → Prop) : Prop :=
  Lp (σ := Int × Int) (S6L4 R PR) (3, 257) w
def pl6 : Plan := (.seq (.reg .seq) (.seq (.reg .seq) (.seq (.seq (.reg .seq) (.block (.loop [(1, (.one (.int .i64))), (2, (.one (.int .i64)))] [] (.seq (.seq (.reg .seq) (.cond .leaf .leaf)) (.seq (.block (.seq (.reg .seq) (.block (.loop [(1, (.one (.int .i64))), (3, (.one (.int .i64)))] [2] (.seq (.seq (.reg .seq) (.cond .leaf .leaf)) (.seq (.block (.seq (.reg .seq) (.seq (.seq (.reg .seq) (.cond .leaf .leaf)) (.seq (.seq (.reg .seq) (.cond (.reg .seq) .leaf)) (.seq (.seq (.reg .seq) (.cond (.seq (.reg .seq) .leaf) .leaf)) (.reg .seq)))))) (.reg .seq))))))) (.reg .seq)))))) (.seq (.reg .seq) (.seq (.seq (.reg .seq) (.block (.loop [(6, (.one (.int .i64))), (7, (.one (.int .i64)))] [1] (.seq (.seq (.reg .seq) (.cond .leaf .leaf)) (.seq (.block (.seq (.reg .seq) (.block (.loop [(6, (.one (.int .i64))), (8, (.one (.int .i64)))] [1, 7] (.seq (.seq (.reg .seq) (.cond .leaf .leaf)) (.seq (.block (.seq (.reg .seq) (.seq (.seq (.reg .seq) (.cond .leaf .leaf)) (.seq (.seq (.reg .seq) (.cond (.seq (.reg .seq) .leaf) .leaf)) (.reg .seq))))) (.reg .seq))))))) (.reg .seq)))))) (.seq (.reg .seq) .leaf))))))
set_option maxRecDepth 100000 in
theorem T6 (w : World) (R : Bool → World → Prop) (PR : Value → World → Prop) (h : S6 w R PR) : C6 w R PR := by
  have e : fnT Tryd.prog ⟨FF, MAY, PR⟩ pl6 Tryd.f6 [] w [(.one .bool)] (fun s w => R s w) = S6 w R PR := by kernel_rfl
  exact (fn_callsP okF okM Tryd.func6 (by kernel_rfl) (by kernel_rfl) (e.mpr h)).mono fun _ _ he => he.elim (fun ⟨s, he, hR⟩ => .inl ⟨s, he, hR⟩) .inr

end Go.Proofs.YtapgacggllbhiaaDoor
