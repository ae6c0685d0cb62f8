/- The formulas of 2 functions of the program, written by program (gen.py); the kernel checks each. No condition. -/
import Derived.Test.YtjlaijhmnlkpiaaFn
import Derived.Test.YtjlaijhmnlkpiaaFnBit
import Derived.Test.YtjlaijhmnlkpiaaFnHint
import Derived.Test.YtjlaijhmnlkpiaaFnLawH
namespace Go.Proofs.Ytjlaijhmnlkpiaa
open Sh
set_option linter.unusedVariables false
set_option maxRecDepth 100000

def C8 (l1 : Slc) (s2 : ByteArray) (n3 : Int) (w : World) (R : Bool → World → Prop) : Prop :=
  Calls Try.prog 8 #[Slc.v l1, .string s2, .int .i64 n3] w fun e w' => ∃ r0 : Bool, e = .returned (.bool r0) ∧ R r0 w'
theorem C8.mono {l1 : Slc} {s2 : ByteArray} {n3 : Int} {w : World} {R R' : Bool → World → Prop} (h : C8 l1 s2 n3 w R) (hr : ∀ r0 w', R r0 w' → R' r0 w') : C8 l1 s2 n3 w R' :=
  Calls.mono h fun _ _ ⟨r0, he, hR⟩ => ⟨r0, he, hr _ _ hR⟩
def C11 (l1 : Slc) (a2 : Int) (b3 : Int) (c4 : Int) (which5 : Int) (w : World) (R : Bool → World → Prop) : Prop :=
  Calls Try.prog 11 #[Slc.v l1, .int .i64 a2, .int .i64 b3, .int .i64 c4, .int .i64 which5] w fun e w' => ∃ r0 : Bool, e = .returned (.bool r0) ∧ R r0 w'
theorem C11.mono {l1 : Slc} {a2 : Int} {b3 : Int} {c4 : Int} {which5 : Int} {w : World} {R R' : Bool → World → Prop} (h : C11 l1 a2 b3 c4 which5 w R) (hr : ∀ r0 w', R r0 w' → R' r0 w') : C11 l1 a2 b3 c4 which5 w R' :=
  Calls.mono h fun _ _ ⟨r0, he, hR⟩ => ⟨r0, he, hr _ _ hR⟩

def S8J1 (l1 : Slc) (s2 : ByteArray) (n3 : Int) (R : Bool → World → Prop) (s14 : Unit) (vw15 : World) : Prop :=
  C38 l1 vw15 fun r16 r17 vw18 =>
    C39 l1 vw18 fun r19 r20 vw21 =>
      C40 s2 vw21 fun r22 r23 vw24 =>
        C41 s2 vw24 fun r25 r26 vw27 =>
          Br (r16.toList == r19.toList) (Br (r17 == r20) (C42 r22 r25 vw27 fun r28 vw29 =>
                Br r28 (Br (r23 == r26) (C43 n3 vw29 fun r30 vw31 =>
                      C44 n3 vw31 fun r32 vw33 =>
                        Br (r30 == r32) (C37 vw33 fun r34 vw35 =>
                            R r34 vw35) (R false vw33)) (R false vw29)) (R false vw29)) (R false vw27)) (R false vw27)
/-- foliant/foliantlaw32.HintTells -/
def S8 (l1 : Slc) (s2 : ByteArray) (n3 : Int) (w : World) (R : Bool → World → Prop) : Prop :=
  Join (S8J1 l1 s2 n3 R) fun (vJ36 : Unit → World → Prop) =>
    Br (decide (((l1.len : Nat) : Int) > 300)) (Br (decide (((l1.len : Nat) : Int) < 2040)) (C37 w fun r37 vw38 =>
          R r37 vw38) (Br (decide (((l1.len : Nat) : Int) > 2060)) (C37 w fun r39 vw40 =>
            R r39 vw40) (Br (decide ((((s2).size : Nat) : Int) > 3000)) (C37 w fun r41 vw42 =>
              R r41 vw42) (vJ36 () w)))) (Br (decide (((l1.len : Nat) : Int) > 2060)) (C37 w fun r43 vw44 =>
          R r43 vw44) (Br (decide ((((s2).size : Nat) : Int) > 3000)) (C37 w fun r45 vw46 =>
            R r45 vw46) (vJ36 () w)))
def pl8 : Plan := (.seq (.reg .seq) (.join [] [0, 1, 2] (.seq (.reg .seq) (.cond (.seq (.reg .seq) .leaf) .leaf)) (.seq (.reg .seq) (.seq (.reg .seq) (.seq (.reg .seq) (.seq (.reg .seq) (.seq (.reg .seq) .leaf)))))))
set_option maxRecDepth 100000 in
theorem T8 (l1 : Slc) (s2 : ByteArray) (n3 : Int) (w : World) (R : Bool → World → Prop) (h : S8 l1 s2 n3 w R) : C8 l1 s2 n3 w R := by
  have e : fnT Try.prog ⟨FF, MAY, (fun _ _ => False)⟩ pl8 Try.f8 [Slc.v l1, .string s2, .int .i64 n3] w [(.one .bool)] (fun s w => R s w) = S8 l1 s2 n3 w R := by kernel_rfl
  exact (fn_calls okF okM Try.func8 (by kernel_rfl) (by kernel_rfl) (e.mpr h)).mono fun _ _ ⟨s, he, hR⟩ => ⟨s, he, hR⟩

def S11J1 (r10 : ByteArray) (R : Bool → World → Prop) (s88 : ByteArray × Int) (vw89 : World) : Prop :=
  Lt (IntKind.i64.wrap ((IntKind.i64.wrap (8 * (((s88.1).size : Nat) : Int))) - (IntKind.i64.wrap (8 * (((r10).size : Nat) : Int))))) fun (x90 : Int) =>
  0 ≤ (16 : Int) ∧ (16 : Int) < ((r10).size : Nat) ∧ 0 ≤ (17 : Int) ∧ (17 : Int) < ((r10).size : Nat) ∧ Lt (IntKind.i64.wrap ((IntKind.i64.wrap (256 * (IntKind.i64.wrap (bAt r10 16)))) + (IntKind.i64.wrap (bAt r10 17)))) fun (x91 : Int) =>
  0 ≤ (18 : Int) ∧ (18 : Int) < ((r10).size : Nat) ∧ 0 ≤ (19 : Int) ∧ (19 : Int) < ((r10).size : Nat) ∧ Lt (IntKind.i64.wrap ((IntKind.i64.wrap (x91 + (IntKind.i64.wrap (256 * (IntKind.i64.wrap (bAt r10 18)))))) + (IntKind.i64.wrap (bAt r10 19)))) fun (x92 : Int) =>
  0 ≤ (20 : Int) ∧ (20 : Int) < ((r10).size : Nat) ∧ 0 ≤ (21 : Int) ∧ (21 : Int) < ((r10).size : Nat) ∧ Lt (IntKind.i64.wrap ((IntKind.i64.wrap (x92 + (IntKind.i64.wrap (256 * (IntKind.i64.wrap (bAt r10 20)))))) + (IntKind.i64.wrap (bAt r10 21)))) fun (x93 : Int) =>
  Br (s88.2 == 0) (Br (decide (x90 ≥ 0)) (Br (decide (x90 ≤ (IntKind.i64.wrap (x93 + 21)))) (Br (x93 != 0) (R true vw89.drew) (R (x90 == 0) vw89.drew)) (R false vw89.drew)) (R false vw89.drew)) (R false vw89.drew)
def S11J2 (l1 : Slc) (which5 : Int) (r10 : ByteArray) (R : Bool → World → Prop) (s55 : Unit) (vw56 : World) : Prop :=
  Join (S11J1 r10 R) fun (vJ94 : (ByteArray × Int) → World → Prop) =>
    ∃ vS95 : World → Prop, vS95 vw56.drew ∧ ((l1.len : Nat) : Int) ≠ 0 ∧ 0 ≤ (Int.tmod which5 ((l1.len : Nat) : Int)) ∧ (Int.tmod which5 ((l1.len : Nat) : Int)) < (l1.len : Nat) ∧ Nn l1.p fun a96 =>
    LdS vS95 (a96.add ((Int.tmod which5 ((l1.len : Nat) : Int)).toNat * 3)) (Value.int .i64) fun (x97 : Int) =>
    LdS vS95 ((a96.add ((Int.tmod which5 ((l1.len : Nat) : Int)).toNat * 3)).add 1) (Value.int .i64) fun (x98 : Int) =>
    LdS vS95 ((a96.add ((Int.tmod which5 ((l1.len : Nat) : Int)).toNat * 3)).add 2) (Value.int .i64) fun (x99 : Int) =>
    (Nw vw56.drew (.cells #[] 70) fun vw100 =>
      vS95 vw100 ∧ (Rn Try.prog (Builtin.append_ #[59, 59] 59 #[Slc.v ((⟨some ⟨vw56.drew.heap.size, 0, none⟩, 0, 0⟩ : Slc)), Slc.v l1]) vw100 Slc.v fun (x101 : Slc) vw102 =>
        vS95 vw102 ∧ Nw vw102 (.cells #[.int .i64 x97, .int .i64 x98, .int .i64 x99] 70) fun vw103 =>
        Rn Try.prog (Builtin.append_ #[59, 59] 59 #[Slc.v x101, Slc.v ((⟨some ⟨vw102.heap.size, 0, none⟩, 1, 1⟩ : Slc))]) vw103 Slc.v fun (x104 : Slc) vw105 =>
        C38 x104 vw105 fun r106 r107 vw108 =>
          vJ94 (r106, r107) vw108) ∧
      (Nw vw100 (.cells #[.int .i64 x97, .int .i64 x98, .int .i64 x99] 70) fun vw109 =>
        Rn Try.prog (Builtin.append_ #[59, 59] 59 #[Slc.v ((⟨some ⟨vw56.drew.heap.size, 0, none⟩, 0, 0⟩ : Slc)), Slc.v l1]) vw109 Slc.v fun (x110 : Slc) vw111 =>
        Rn Try.prog (Builtin.append_ #[59, 59] 59 #[Slc.v x110, Slc.v ((⟨some ⟨vw100.heap.size, 0, none⟩, 1, 1⟩ : Slc))]) vw111 Slc.v fun (x112 : Slc) vw113 =>
        C38 x112 vw113 fun r114 r115 vw116 =>
          vJ94 (r114, r115) vw116)) ∧
    (Nw vw56.drew (.cells #[.int .i64 x97, .int .i64 x98, .int .i64 x99] 70) fun vw117 =>
      Nw vw117 (.cells #[] 70) fun vw118 =>
      Rn Try.prog (Builtin.append_ #[59, 59] 59 #[Slc.v ((⟨some ⟨vw117.heap.size, 0, none⟩, 0, 0⟩ : Slc)), Slc.v l1]) vw118 Slc.v fun (x119 : Slc) vw120 =>
      Rn Try.prog (Builtin.append_ #[59, 59] 59 #[Slc.v x119, Slc.v ((⟨some ⟨vw56.drew.heap.size, 0, none⟩, 1, 1⟩ : Slc))]) vw120 Slc.v fun (x121 : Slc) vw122 =>
      C38 x121 vw122 fun r123 r124 vw125 =>
        vJ94 (r123, r124) vw125)
def S11L1 (l1 : Slc) (a2 : Int) (b3 : Int) (c4 : Int) (which5 : Int) (r10 : ByteArray) (x13 : Slc) (R : Bool → World → Prop) (I35 : Int → World → Prop) (s33 : Int) (vw34 : World) : Prop :=
  Br (decide (s33 < ((l1.len : Nat) : Int))) (0 ≤ s33 ∧ s33 < (l1.len : Nat) ∧ Nn l1.p fun a36 =>
    Ld vw34 (a36.add ((s33).toNat * 3)) (Value.int .i64) fun (x37 : Int) =>
    Ld vw34 ((a36.add ((s33).toNat * 3)).add 1) (Value.int .i64) fun (x38 : Int) =>
    Ld vw34 ((a36.add ((s33).toNat * 3)).add 2) (Value.int .i64) fun (x39 : Int) =>
    Nw vw34 (.cells #[.int .i64 0, .int .i64 0, .int .i64 0] 70) fun vw40 =>
    St vw40 (⟨vw34.heap.size, 0, none⟩ : Addr) (.int .i64 x37) fun vw41 =>
    St vw41 ((⟨vw34.heap.size, 0, none⟩ : Addr).add 1) (.int .i64 x38) fun vw42 =>
    St vw42 ((⟨vw34.heap.size, 0, none⟩ : Addr).add 2) (.int .i64 x39) fun vw43 =>
    Ld vw43 (⟨vw34.heap.size, 0, none⟩ : Addr) (Value.int .i64) fun (x44 : Int) =>
    Ld vw43 ((⟨vw34.heap.size, 0, none⟩ : Addr).add 1) (Value.int .i64) fun (x45 : Int) =>
    Ld vw43 ((⟨vw34.heap.size, 0, none⟩ : Addr).add 2) (Value.int .i64) fun (x46 : Int) =>
    0 ≤ s33 ∧ s33 < (x13.len : Nat) ∧ Nn x13.p fun a47 =>
    St vw43 (a47.add ((s33).toNat * 3)) (.int .i64 (IntKind.i64.wrap (x44 + a2))) fun vw48 =>
    St vw48 ((a47.add ((s33).toNat * 3)).add 1) (.int .i64 (IntKind.i64.wrap (x45 + b3))) fun vw49 =>
    St vw49 ((a47.add ((s33).toNat * 3)).add 2) (.int .i64 (IntKind.i64.wrap (x46 + c4))) fun vw50 =>
    I35 (IntKind.i64.wrap (s33 + 1)) vw50) (C38 x13 vw34 fun r51 r52 vw53 =>
      Join (S11J2 l1 which5 r10 R) fun (vJ126 : Unit → World → Prop) =>
        Br (r52 == 0) (Br ((((r51).size : Nat) : Int) != (((r10).size : Nat) : Int)) (R false vw53.drew) (0 ≤ (16 : Int) ∧ (16 : Int) ≤ (((r51).size : Nat) : Int) ∧ 0 ≤ (16 : Int) ∧ (16 : Int) ≤ (((r10).size : Nat) : Int) ∧ Lt (!((r51.extract (((16 : Int)).toNat) ((r51).size)).toList == (r10.extract (((16 : Int)).toNat) ((r10).size)).toList)) fun (x127 : Bool) =>
            Br x127 (R false vw53.drew) (vJ126 () vw53.drew))) (vJ126 () vw53.drew))
/-- foliant/foliantlaw32.HintLong -/
def S11 (l1 : Slc) (a2 : Int) (b3 : Int) (c4 : Int) (which5 : Int) (w : World) (R : Bool → World → Prop) : Prop :=
  C37 w fun r8 vw9 =>
    Br (!r8) (R false vw9) (Br (((l1.len : Nat) : Int) == 0) (R true vw9) (Br (decide (((l1.len : Nat) : Int) > 300)) (R true vw9) (Br (decide (which5 < 0)) (R true vw9) (Br (decide (a2 < 0)) (R true vw9) (Br (decide (a2 > 8191)) (R true vw9) (Br (decide (b3 < 0)) (R true vw9) (Br (decide (b3 > 1048576)) (R true vw9) (Br (decide (c4 < 0)) (R true vw9) (Br (decide (c4 > 1048576)) (R true vw9) (C38 l1 vw9 fun r10 r11 vw12 =>
                          Br (r11 != 0) (R true vw12) (Rn Try.prog (Instr.makeSlice 59 (.int .i64 ((l1.len : Nat) : Int)) (.int .i64 ((l1.len : Nat) : Int))) vw12 Slc.v fun (x13 : Slc) vw14 =>
                            Lp (σ := Int) (S11L1 l1 a2 b3 c4 which5 r10 x13 R) 0 vw14)))))))))))
def pl11 : Plan := (.seq (.reg .seq) (.seq (.seq (.reg .seq) (.cond (.seq (.reg .seq) .leaf) .leaf)) (.seq (.seq (.reg .seq) (.cond (.seq (.reg .seq) .leaf) .leaf)) (.seq (.reg .seq) (.seq (.seq (.reg .seq) (.cond (.seq (.reg .seq) .leaf) .leaf)) (.seq (.reg .seq) (.seq (.seq (.reg .seq) (.block (.loop [(72, (.one (.int .i64)))] [0, 1, 2, 3, 4, 11, 13, 70, 71] (.seq (.reg .seq) (.seq (.cond .leaf .leaf) (.seq (.block (.seq (.reg .seq) (.reg .seq))) (.reg .seq))))))) (.seq (.reg .seq) (.join [] [0, 4, 11] (.seq (.reg .still) (.cond (.seq (.reg .seq) .leaf) .leaf)) (.join [(18, (.one .str)), (19, (.one (.int .i64)))] [11] (.reg (.held [10] (.take 1 (.take 3 (.take 4 (.take 5 (.take 6 (.take 7 (.take 8 (.take 9 (.effs 0 none (.effs 2 none (.eff 10 (some [11]) (.eff 11 (some [12]) (.eff 12 (some []) (.take 13 (.take 14 (.take 15 (.take 16 (.take 17 .done)))))))) (.eff 10 (some [2]) (.eff 2 (some [11]) (.eff 11 (some [12]) (.eff 12 (some []) (.take 13 (.take 14 (.take 15 (.take 16 (.take 17 .done)))))))))) (.eff 10 (some [0]) (.eff 0 (some [2]) (.eff 2 (some [11]) (.eff 11 (some [12]) (.eff 12 (some []) (.take 13 (.take 14 (.take 15 (.take 16 (.take 17 .done))))))))))))))))))))) (.seq (.reg .seq) (.seq (.reg .still) (.seq (.reg .seq) .leaf)))))))))))))
set_option maxRecDepth 100000 in
theorem T11 (l1 : Slc) (a2 : Int) (b3 : Int) (c4 : Int) (which5 : Int) (w : World) (R : Bool → World → Prop) (h : S11 l1 a2 b3 c4 which5 w R) : C11 l1 a2 b3 c4 which5 w R := by
  have e : fnT Try.prog ⟨FF, MAY, (fun _ _ => False)⟩ pl11 Try.f11 [Slc.v l1, .int .i64 a2, .int .i64 b3, .int .i64 c4, .int .i64 which5] w [(.one .bool)] (fun s w => R s w) = S11 l1 a2 b3 c4 which5 w R := by kernel_rfl
  exact (fn_calls okF okM Try.func11 (by kernel_rfl) (by kernel_rfl) (e.mpr h)).mono fun _ _ ⟨s, he, hR⟩ => ⟨s, he, hR⟩

end Go.Proofs.Ytjlaijhmnlkpiaa
