/- The formulas of 3 functions of the program, written by program (gen.py); the kernel checks each. No condition. -/
import Derived.Test.YtjlaijhmnlkpiaaFn
import Derived.Test.YtjlaijhmnlkpiaaFnBit
import Derived.Test.YtjlaijhmnlkpiaaFnHint
namespace Go.Proofs.Ytjlaijhmnlkpiaa
open Sh
set_option linter.unusedVariables false
set_option maxRecDepth 100000

def C37 (w : World) (R : Bool → World → Prop) : Prop :=
  Calls Try.prog 37 #[] w fun e w' => ∃ r0 : Bool, e = .returned (.bool r0) ∧ R r0 w'
theorem C37.mono {w : World} {R R' : Bool → World → Prop} (h : C37 w R) (hr : ∀ r0 w', R r0 w' → R' r0 w') : C37 w R' :=
  Calls.mono h fun _ _ ⟨r0, he, hR⟩ => ⟨r0, he, hr _ _ hR⟩
def C9 (l1 : Slc) (more2 : ByteArray) (w : World) (R : Bool → World → Prop) : Prop :=
  Calls Try.prog 9 #[Slc.v l1, .string more2] w fun e w' => ∃ r0 : Bool, e = .returned (.bool r0) ∧ R r0 w'
theorem C9.mono {l1 : Slc} {more2 : ByteArray} {w : World} {R R' : Bool → World → Prop} (h : C9 l1 more2 w R) (hr : ∀ r0 w', R r0 w' → R' r0 w') : C9 l1 more2 w R' :=
  Calls.mono h fun _ _ ⟨r0, he, hR⟩ => ⟨r0, he, hr _ _ hR⟩
def C10 (s1 : ByteArray) (w : World) (R : Bool → World → Prop) : Prop :=
  Calls Try.prog 10 #[.string s1] w fun e w' => ∃ r0 : Bool, e = .returned (.bool r0) ∧ R r0 w'
theorem C10.mono {s1 : ByteArray} {w : World} {R R' : Bool → World → Prop} (h : C10 s1 w R) (hr : ∀ r0 w', R r0 w' → R' r0 w') : C10 s1 w R' :=
  Calls.mono h fun _ _ ⟨r0, he, hR⟩ => ⟨r0, he, hr _ _ hR⟩

/-- foliant/foliantlaw32.lives -/
def S37 (w : World) (R : Bool → World → Prop) : Prop :=
  Nw w (.cells #[.int .i64 3, .int .i64 100, .int .i64 20] 70) fun vw1 =>
  C38 (⟨some ⟨w.heap.size, 0, none⟩, 1, 1⟩ : Slc) vw1 fun r2 r3 vw4 =>
    Nw vw4 (.cells #[.int .i64 3, .int .i64 100, .int .i64 20, .int .i64 4, .int .i64 100, .int .i64 22] 70) fun vw5 =>
    C38 (⟨some ⟨vw4.heap.size, 0, none⟩, 2, 2⟩ : Slc) vw5 fun r6 r7 vw8 =>
      C38 (⟨none, 0, 0⟩ : Slc) vw8 fun r9 r10 vw11 =>
        Nw vw11 (.cells #[.int .i64 8192, .int .i64 0, .int .i64 0] 70) fun vw12 =>
        C38 (⟨some ⟨vw11.heap.size, 0, none⟩, 1, 1⟩ : Slc) vw12 fun r13 r14 vw15 =>
          Br ((((r2).size : Nat) : Int) != 22) (R false vw15) (C40 r6 vw15 fun r16 r17 vw18 =>
              (((r6).size + ((⟨#[0]⟩ : ByteArray)).size : Nat) : Int) ≤ IntKind.i64.max ∧ C40 (r6 ++ (⟨#[0]⟩ : ByteArray)) vw18 fun r19 r20 vw21 =>
                C40 (⟨#[]⟩ : ByteArray) vw21 fun r22 r23 vw24 =>
                  0 ≤ (21 : Int) ∧ (21 : Int) ≤ (((r2).size : Nat) : Int) ∧ C40 (r2.extract 0 (((21 : Int)).toNat)) vw24 fun r25 r26 vw27 =>
                    Br ((((r6).size : Nat) : Int) != 24) (R false vw27) (Lt (!(r2.toList == (⟨#[0, 0, 0, 1, 0, 0, 0, 3, 0, 0, 0, 100, 0, 0, 0, 20, 0, 0, 0, 0, 0, 0]⟩ : ByteArray).toList)) fun (x30 : Bool) =>
                      Br x30 (R false vw27) (Br (r3 != 0) (R false vw27) (0 ≤ (16 : Int) ∧ (16 : Int) ≤ (((r6).size : Nat) : Int) ∧ Lt (!((r6.extract (((16 : Int)).toNat) ((r6).size)).toList == (⟨#[0, 1, 0, 0, 0, 2, 64, 32]⟩ : ByteArray).toList)) fun (x31 : Bool) =>
                          Br x31 (R false vw27) (Br (r7 != 0) (R false vw27) (Br (r10 != 1) (R false vw27) (Br (r14 != 2) (R false vw27) (Br (((r16.len : Nat) : Int) == 2) (0 ≤ (1 : Int) ∧ (1 : Int) < (r16.len : Nat) ∧ Nn r16.p fun a32 =>
                                    Ld vw27 (a32.add (((1 : Int)).toNat * 3)) (Value.int .i64) fun (x33 : Int) =>
                                    Ld vw27 ((a32.add (((1 : Int)).toNat * 3)).add 1) (Value.int .i64) fun (x34 : Int) =>
                                    Ld vw27 ((a32.add (((1 : Int)).toNat * 3)).add 2) (Value.int .i64) fun (x35 : Int) =>
                                    Br ((x33 == 4) && ((x34 == 100) && ((x35 == 22) && true))) (Br (r17 == 0) (Br (r20 == 32) (Br (r23 == 32) (Br (r26 == 32) (C43 0 vw27 fun r36 vw37 =>
                                                Br (r36 == 0) (C43 1 vw37 fun r38 vw39 =>
                                                    Br (r38 == 1) (C43 255 vw39 fun r40 vw41 =>
                                                        Br (r40 == 8) (C43 256 vw41 fun r42 vw43 =>
                                                            Br (r42 == 9) (C43 (-1) vw43 fun r44 vw45 =>
                                                                R (r44 == 0) vw45) (R false vw43)) (R false vw41)) (R false vw39)) (R false vw37)) (R false vw27)) (R false vw27)) (R false vw27)) (R false vw27)) (R false vw27)) (R false vw27)))))))))
def pl37 : Plan := (.seq (.reg .seq) (.seq (.reg .seq) (.seq (.reg .seq) (.seq (.reg .seq) (.seq (.reg .seq) (.seq (.seq (.reg .seq) (.cond (.seq (.reg .seq) .leaf) .leaf)) (.seq (.reg .seq) (.seq (.reg .seq) (.seq (.reg .seq) (.seq (.reg .seq) (.seq (.seq (.reg .seq) (.cond (.seq (.reg .seq) .leaf) .leaf)) (.seq (.reg .seq) .leaf))))))))))))
set_option maxRecDepth 100000 in
theorem T37 (w : World) (R : Bool → World → Prop) (h : S37 w R) : C37 w R := by
  have e : fnT Try.prog ⟨FF, MAY, (fun _ _ => False)⟩ pl37 Try.f37 [] w [(.one .bool)] (fun s w => R s w) = S37 w R := by kernel_rfl
  exact (fn_calls okF okM Try.func37 (by kernel_rfl) (by kernel_rfl) (e.mpr h)).mono fun _ _ ⟨s, he, hR⟩ => ⟨s, he, hR⟩

/-- foliant/foliantlaw32.HintBack -/
def S9 (l1 : Slc) (more2 : ByteArray) (w : World) (R : Bool → World → Prop) : Prop :=
  C37 w fun r5 vw6 =>
    Br (!r5) (R false vw6) (Br (decide (((l1.len : Nat) : Int) > 300)) (R true vw6) (Br (decide ((((more2).size : Nat) : Int) > 100)) (R true vw6) (C38 l1 vw6 fun r7 r8 vw9 =>
            Br (r8 != 0) (R (r7.toList == (⟨#[]⟩ : ByteArray).toList) vw9) (C40 r7 vw9 fun r10 r11 vw12 =>
                (((r7).size + (more2).size : Nat) : Int) ≤ IntKind.i64.max ∧ C40 (r7 ++ more2) vw12 fun r13 r14 vw15 =>
                  0 ≤ (IntKind.i64.wrap ((((r7).size : Nat) : Int) - 1)) ∧ (IntKind.i64.wrap ((((r7).size : Nat) : Int) - 1)) ≤ (((r7).size : Nat) : Int) ∧ C40 (r7.extract 0 ((IntKind.i64.wrap ((((r7).size : Nat) : Int) - 1)).toNat)) vw15 fun r16 r17 vw18 =>
                    C42 r10 l1 vw18 fun r19 vw20 =>
                      Br r19 (Br (r11 == 0) (Br (more2.toList == (⟨#[]⟩ : ByteArray).toList) (Br (r17 == 32) (R (((r16.len : Nat) : Int) == 0) vw20) (R false vw20)) (Br (r14 == 32) (Br (((r13.len : Nat) : Int) == 0) (Br (r17 == 32) (R (((r16.len : Nat) : Int) == 0) vw20) (R false vw20)) (R false vw20)) (R false vw20))) (R false vw20)) (R false vw20)))))
def pl9 : Plan := (.seq (.reg .seq) (.seq (.seq (.reg .seq) (.cond (.seq (.reg .seq) .leaf) .leaf)) (.seq (.seq (.reg .seq) (.cond (.seq (.reg .seq) .leaf) .leaf)) (.seq (.reg .seq) (.seq (.seq (.reg .seq) (.cond (.seq (.reg .seq) .leaf) .leaf)) (.seq (.reg .seq) (.seq (.reg .seq) (.seq (.reg .seq) (.seq (.reg .seq) .leaf)))))))))
set_option maxRecDepth 100000 in
theorem T9 (l1 : Slc) (more2 : ByteArray) (w : World) (R : Bool → World → Prop) (h : S9 l1 more2 w R) : C9 l1 more2 w R := by
  have e : fnT Try.prog ⟨FF, MAY, (fun _ _ => False)⟩ pl9 Try.f9 [Slc.v l1, .string more2] w [(.one .bool)] (fun s w => R s w) = S9 l1 more2 w R := by kernel_rfl
  exact (fn_calls okF okM Try.func9 (by kernel_rfl) (by kernel_rfl) (e.mpr h)).mono fun _ _ ⟨s, he, hR⟩ => ⟨s, he, hR⟩

/-- foliant/foliantlaw32.HintOne -/
def S10 (s1 : ByteArray) (w : World) (R : Bool → World → Prop) : Prop :=
  C37 w fun r4 vw5 =>
    Br (!r4) (R false vw5) (Br (decide ((((s1).size : Nat) : Int) > 3000)) (R true vw5) (C40 s1 vw5 fun r6 r7 vw8 =>
          Br (r7 != 0) (Br (r7 == 32) (R (((r6.len : Nat) : Int) == 0) vw8) (R false vw8)) (C38 r6 vw8 fun r9 r10 vw11 =>
              Br (r9.toList == s1.toList) (R (r10 == 0) vw11) (R false vw11))))
def pl10 : Plan := (.seq (.reg .seq) (.seq (.seq (.reg .seq) (.cond (.seq (.reg .seq) .leaf) .leaf)) (.seq (.seq (.reg .seq) (.cond (.seq (.reg .seq) .leaf) .leaf)) (.seq (.reg .seq) (.seq (.seq (.reg .seq) (.cond (.seq (.reg .seq) .leaf) .leaf)) (.seq (.reg .seq) (.seq (.reg .seq) .leaf)))))))
set_option maxRecDepth 100000 in
theorem T10 (s1 : ByteArray) (w : World) (R : Bool → World → Prop) (h : S10 s1 w R) : C10 s1 w R := by
  have e : fnT Try.prog ⟨FF, MAY, (fun _ _ => False)⟩ pl10 Try.f10 [.string s1] w [(.one .bool)] (fun s w => R s w) = S10 s1 w R := by kernel_rfl
  exact (fn_calls okF okM Try.func10 (by kernel_rfl) (by kernel_rfl) (e.mpr h)).mono fun _ _ ⟨s, he, hR⟩ => ⟨s, he, hR⟩

end Go.Proofs.Ytjlaijhmnlkpiaa
