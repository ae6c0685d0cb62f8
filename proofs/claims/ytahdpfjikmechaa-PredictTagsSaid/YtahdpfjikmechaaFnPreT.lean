/- The formulas of 2 functions of the program, written by program (gen.py); the kernel checks each. No condition. -/
import Derived.Test.YtahdpfjikmechaaFnPreP
import Derived.Test.YtahdpfjikmechaaFnPreL
import Derived.Test.YtahdpfjikmechaaFnPreR
namespace Go.Proofs.Ytahdpfjikmechaa
open Sh
set_option linter.unusedVariables false

def S58L1 (s1 : ByteArray) (R : Int → World → Prop) (I4 : (Int × Int) → World → Prop) (s2 : Int × Int) (vw3 : World) : Prop :=
  Br (decide (s2.2 < (((s1).size : Nat) : Int))) (0 ≤ s2.2 ∧ s2.2 < ((s1).size : Nat) ∧ 0 ≤ s2.2 ∧ s2.2 < ((s1).size : Nat) ∧ Lt ((if (IntKind.i64.wrap (256 - (IntKind.i64.wrap (bAt s1 s2.2)))) < (IntKind.i64.wrap (bAt s1 s2.2)) then (IntKind.i64.wrap (256 - (IntKind.i64.wrap (bAt s1 s2.2)))) else (IntKind.i64.wrap (bAt s1 s2.2)))) fun (x5 : Int) =>
    I4 (IntKind.i64.wrap (s2.1 + x5), IntKind.i64.wrap (s2.2 + 1)) vw3.drew) (R s2.1 vw3)
/-- foliant/foliantlaw15.far -/
def S58 (s1 : ByteArray) (w : World) (R : Int → World → Prop) : Prop :=
  Lp (σ := Int × Int) (S58L1 s1 R) (0, 0) w
def C58 (s1 : ByteArray) (w : World) (R : Int → World → Prop) : Prop :=
  Calls Try.prog 58 #[.string s1] w fun e w' => ∃ r0 : Int, e = .returned (.int .i64 r0) ∧ R r0 w'
def pl58 : Plan := (.seq (.reg .seq) (.seq (.reg .seq) (.seq (.seq (.reg .seq) (.block (.loop [(3, (.one (.int .i64))), (4, (.one (.int .i64)))] [0] (.seq (.seq (.reg .seq) (.cond .leaf .leaf)) (.seq (.block (.reg .still)) (.reg .seq)))))) (.seq (.reg .seq) .leaf))))
theorem C58.mono {s1 : ByteArray} {w : World} {R R' : Int → World → Prop} (h : C58 s1 w R) (hr : ∀ r0 w', R r0 w' → R' r0 w') : C58 s1 w R' :=
  Calls.mono h fun _ _ ⟨r0, he, hR⟩ => ⟨r0, he, hr _ _ hR⟩
set_option maxRecDepth 100000 in
theorem T58 (s1 : ByteArray) (w : World) (R : Int → World → Prop) (h : S58 s1 w R) : C58 s1 w R := by
  have e : fnT Try.prog FF pl58 Try.f58 [.string s1] w [(.one (.int .i64))] (fun s w => R s w) = S58 s1 w R := by kernel_rfl
  exact (fn_calls okF okM Try.func58 (by kernel_rfl) (by kernel_rfl) (e.mpr h)).mono fun _ _ ⟨s, he, hR⟩ => ⟨s, he, hR⟩

def S11L1 (vw7 : World) (x8 : Int) (x9 : Int) (s42 : Int) (I44 : Int → World → Prop) (x47 : ByteArray) (R : Bool → World → Prop) (I50 : Int → World → Prop) (s48 : Int) (vw49 : World) : Prop :=
  Br (decide (s48 < 5)) (∃ vS51 : World → Prop, vS51 vw49.drew ∧ 0 ≤ s48 ∧ s48 < (6 : Nat) ∧ LdS vS51 ((⟨vw7.heap.size, 0, none⟩ : Addr).add ((s48).toNat * 1)) Value.string fun (x52 : ByteArray) =>
    0 ≤ s42 ∧ s42 < ((x52).size : Nat) ∧ Br ((IntKind.i64.wrap (bAt x52 s42)) != s48) (∃ vS53 : World → Prop, vS53 vw49.drew ∧ R false vw49.drew) (0 ≤ s48 ∧ s48 < (6 : Nat) ∧ LdS vS51 ((⟨vw7.heap.size, 0, none⟩ : Addr).add ((s48).toNat * 1)) Value.string fun (x54 : ByteArray) =>
      0 ≤ (IntKind.i64.wrap ((IntKind.i64.wrap (s42 + (IntKind.i64.wrap (x8 * x9)))) + 1)) ∧ (IntKind.i64.wrap ((IntKind.i64.wrap (s42 + (IntKind.i64.wrap (x8 * x9)))) + 1)) ≤ (((x54).size : Nat) : Int) ∧ 0 ≤ (IntKind.i64.wrap (s42 + 1)) ∧ (IntKind.i64.wrap (s42 + 1)) ≤ (((IntKind.i64.wrap ((IntKind.i64.wrap (s42 + (IntKind.i64.wrap (x8 * x9)))) + 1)).toNat : Nat) : Int) ∧ LdS vS51 ((⟨vw7.heap.size, 0, none⟩ : Addr).add 5) Value.string fun (x55 : ByteArray) =>
      0 ≤ (IntKind.i64.wrap ((IntKind.i64.wrap (s42 + (IntKind.i64.wrap (x8 * x9)))) + 1)) ∧ (IntKind.i64.wrap ((IntKind.i64.wrap (s42 + (IntKind.i64.wrap (x8 * x9)))) + 1)) ≤ (((x55).size : Nat) : Int) ∧ 0 ≤ (IntKind.i64.wrap (s42 + 1)) ∧ (IntKind.i64.wrap (s42 + 1)) ≤ (((IntKind.i64.wrap ((IntKind.i64.wrap (s42 + (IntKind.i64.wrap (x8 * x9)))) + 1)).toNat : Nat) : Int) ∧ C58 (x54.extract ((IntKind.i64.wrap (s42 + 1)).toNat) ((IntKind.i64.wrap ((IntKind.i64.wrap (s42 + (IntKind.i64.wrap (x8 * x9)))) + 1)).toNat)) vw49.drew fun r56 vw57 =>
        vS51 vw57 ∧ C58 (x55.extract ((IntKind.i64.wrap (s42 + 1)).toNat) ((IntKind.i64.wrap ((IntKind.i64.wrap (s42 + (IntKind.i64.wrap (x8 * x9)))) + 1)).toNat)) vw57 fun r58 vw59 =>
          ∃ vS60 : World → Prop, vS60 vw59 ∧ Br (decide (r56 < r58)) (R false vw59) (Br (s48 == (IntKind.i64.wrap (bAt x47 s42))) (0 ≤ s48 ∧ s48 < (6 : Nat) ∧ LdS vS60 ((⟨vw7.heap.size, 0, none⟩ : Addr).add ((s48).toNat * 1)) Value.string fun (x61 : ByteArray) =>
              0 ≤ (IntKind.i64.wrap ((IntKind.i64.wrap (s42 + (IntKind.i64.wrap (x8 * x9)))) + 1)) ∧ (IntKind.i64.wrap ((IntKind.i64.wrap (s42 + (IntKind.i64.wrap (x8 * x9)))) + 1)) ≤ (((x61).size : Nat) : Int) ∧ 0 ≤ s42 ∧ s42 ≤ (((IntKind.i64.wrap ((IntKind.i64.wrap (s42 + (IntKind.i64.wrap (x8 * x9)))) + 1)).toNat : Nat) : Int) ∧ LdS vS60 ((⟨vw7.heap.size, 0, none⟩ : Addr).add 5) Value.string fun (x62 : ByteArray) =>
              0 ≤ (IntKind.i64.wrap ((IntKind.i64.wrap (s42 + (IntKind.i64.wrap (x8 * x9)))) + 1)) ∧ (IntKind.i64.wrap ((IntKind.i64.wrap (s42 + (IntKind.i64.wrap (x8 * x9)))) + 1)) ≤ (((x62).size : Nat) : Int) ∧ 0 ≤ s42 ∧ s42 ≤ (((IntKind.i64.wrap ((IntKind.i64.wrap (s42 + (IntKind.i64.wrap (x8 * x9)))) + 1)).toNat : Nat) : Int) ∧ Br (!((x61.extract ((s42).toNat) ((IntKind.i64.wrap ((IntKind.i64.wrap (s42 + (IntKind.i64.wrap (x8 * x9)))) + 1)).toNat)).toList == (x62.extract ((s42).toNat) ((IntKind.i64.wrap ((IntKind.i64.wrap (s42 + (IntKind.i64.wrap (x8 * x9)))) + 1)).toNat)).toList)) (R false vw59) (I50 (IntKind.i64.wrap (s48 + 1)) vw59)) (I50 (IntKind.i64.wrap (s48 + 1)) vw59)))) (I44 (IntKind.i64.wrap (s42 + (IntKind.i64.wrap ((IntKind.i64.wrap (x8 * x9)) + 1)))) vw49)
def S11L2 (vw7 : World) (x8 : Int) (x9 : Int) (R : Bool → World → Prop) (I44 : Int → World → Prop) (s42 : Int) (vw43 : World) : Prop :=
  Ld vw43 (⟨vw7.heap.size, 0, none⟩ : Addr) Value.string fun (x46 : ByteArray) =>
  Br (decide (s42 < (((x46).size : Nat) : Int))) (Ld vw43 ((⟨vw7.heap.size, 0, none⟩ : Addr).add 5) Value.string fun (x47 : ByteArray) =>
    0 ≤ s42 ∧ s42 < ((x47).size : Nat) ∧ Br (decide ((IntKind.i64.wrap (bAt x47 s42)) > 4)) (R false vw43) (Lp (σ := Int) (S11L1 vw7 x8 x9 s42 I44 x47 R) 0 vw43)) (C45 vw43 fun r63 vw64 =>
      R r63 vw64)
def S11L3 (w : World) (s3 : ByteArray) (vw7 : World) (x8 : Int) (x9 : Int) (x14 : Int) (R : Bool → World → Prop) (I31 : Int → World → Prop) (s29 : Int) (vw30 : World) : Prop :=
  Br (decide (s29 < 6)) (St vw30 (⟨w.heap.size, 0, none⟩ : Addr) (.int .i64 (IntKind.i64.wrap (10 + s29))) fun vw32 =>
    Ld vw32 (⟨w.heap.size, 0, none⟩ : Addr) (Value.int .i64) fun (x33 : Int) =>
    Ld vw32 ((⟨w.heap.size, 0, none⟩ : Addr).add 1) (Value.int .i64) fun (x34 : Int) =>
    Ld vw32 ((⟨w.heap.size, 0, none⟩ : Addr).add 2) (Value.int .i64) fun (x35 : Int) =>
    C46 (x33, x34, x35) (s3.extract 0 ((x14).toNat)) vw32 fun r36 r37 vw38 =>
      Br (r37 != 0) (R false vw38) ((IntKind.i64.wrap (x8 * x9)) ≠ 0 ∧ Lt (IntKind.i64.wrap (Int.tdiv (((s3.extract 0 ((x14).toNat)).size : Nat) : Int) (IntKind.i64.wrap (x8 * x9)))) fun (x39 : Int) =>
        Lt ((((r36).size : Nat) : Int) != (IntKind.i64.wrap ((((s3.extract 0 ((x14).toNat)).size : Nat) : Int) + x39))) fun (x40 : Bool) =>
        Br x40 (R false vw38) (0 ≤ s29 ∧ s29 < (6 : Nat) ∧ St vw38 ((⟨vw7.heap.size, 0, none⟩ : Addr).add ((s29).toNat * 1)) (.string r36) fun vw41 =>
          I31 (IntKind.i64.wrap (s29 + 1)) vw41))) (Lp (σ := Int) (S11L2 vw7 x8 x9 R) 0 vw30)
/-- foliant/foliantlaw15.PredictTags -/
def S11 (colors1 : Int) (columns2 : Int) (s3 : ByteArray) (w : World) (R : Bool → World → Prop) : Prop :=
  Nw w (.cells #[.int .i64 0, .int .i64 0, .int .i64 0] 50) fun vw4 =>
  St vw4 (⟨w.heap.size, 0, none⟩ : Addr) (.int .i64 0) fun vw5 =>
  St vw5 ((⟨w.heap.size, 0, none⟩ : Addr).add 1) (.int .i64 (IntKind.i64.wrap (1 + (IntKind.i64.wrap (Int.tmod colors1 4))))) fun vw6 =>
  St vw6 ((⟨w.heap.size, 0, none⟩ : Addr).add 2) (.int .i64 (IntKind.i64.wrap (1 + (IntKind.i64.wrap (Int.tmod columns2 40))))) fun vw7 =>
  Ld vw7 ((⟨w.heap.size, 0, none⟩ : Addr).add 1) (Value.int .i64) fun (x8 : Int) =>
  Ld vw7 ((⟨w.heap.size, 0, none⟩ : Addr).add 2) (Value.int .i64) fun (x9 : Int) =>
  Br (decide ((((s3).size : Nat) : Int) > 600)) (C45 vw7 fun r12 vw13 =>
      R r12 vw13) ((IntKind.i64.wrap (x8 * x9)) ≠ 0 ∧ Lt (IntKind.i64.wrap ((((s3).size : Nat) : Int) - (Int.tmod (((s3).size : Nat) : Int) (IntKind.i64.wrap (x8 * x9))))) fun (x14 : Int) =>
    0 ≤ x14 ∧ x14 ≤ (((s3).size : Nat) : Int) ∧ Nw vw7 (.cells #[.string ((⟨#[]⟩ : ByteArray)), .string ((⟨#[]⟩ : ByteArray)), .string ((⟨#[]⟩ : ByteArray)), .string ((⟨#[]⟩ : ByteArray)), .string ((⟨#[]⟩ : ByteArray)), .string ((⟨#[]⟩ : ByteArray))] 59) fun vw15 =>
    Lp (σ := Int) (S11L3 w s3 vw7 x8 x9 x14 R) 0 vw15)
def C11 (colors1 : Int) (columns2 : Int) (s3 : ByteArray) (w : World) (R : Bool → World → Prop) : Prop :=
  Calls Try.prog 11 #[.int .u8 colors1, .int .u8 columns2, .string s3] w fun e w' => ∃ r0 : Bool, e = .returned (.bool r0) ∧ R r0 w'
def pl11 : Plan := (.seq (.reg .seq) (.seq (.reg .seq) (.seq (.reg .seq) (.seq (.seq (.reg .seq) (.cond (.seq (.reg .seq) .leaf) .leaf)) (.seq (.reg .seq) (.seq (.reg .seq) (.seq (.seq (.reg .seq) (.block (.loop [(10, (.one (.int .i64)))] [2, 7, 8, 9] (.seq (.seq (.reg .seq) (.cond .leaf .leaf)) (.seq (.block (.seq (.reg .seq) (.seq (.reg .seq) (.seq (.seq (.reg .seq) (.cond (.seq (.reg .seq) .leaf) .leaf)) (.reg .seq))))) (.reg .seq)))))) (.seq (.seq (.reg .seq) (.block (.loop [(13, (.one (.int .i64)))] [8, 9] (.seq (.seq (.reg .seq) (.cond .leaf .leaf)) (.seq (.block (.seq (.reg .seq) (.seq (.seq (.reg .seq) (.cond (.seq (.reg .seq) .leaf) .leaf)) (.seq (.reg .seq) (.block (.loop [(15, (.one (.int .i64)))] [8, 9, 13, 14] (.seq (.seq (.reg .seq) (.cond .leaf .leaf)) (.seq (.block (.seq (.reg (.held [29] (.take 0 (.take 1 (.take 2 (.take 3 (.take 4 (.take 5 (.take 6 (.take 7 (.take 8 (.take 9 (.take 10 (.take 11 (.take 12 (.take 13 (.take 14 (.take 15 (.take 16 (.take 17 (.take 18 (.take 20 (.take 21 (.take 22 (.take 23 (.take 24 (.take 25 (.take 26 (.take 27 (.take 28 (.eff 19 none (.eff 29 (some []) (.take 30 (.take 31 (.take 32 (.take 33 (.take 34 (.take 35 (.take 36 (.take 37 (.take 38 (.take 39 (.take 40 (.take 41 (.take 42 (.take 43 (.take 44 (.take 45 (.take 46 (.take 47 (.take 48 (.take 49 (.take 50 (.take 51 (.take 52 (.take 53 (.take 54 (.take 55 (.take 56 .done))))))))))))))))))))))))))))))))))))))))))))))))))))))))))) (.cond (.seq (.reg .seq) .leaf) .leaf))) (.reg .seq))))))))) (.reg .seq)))))) (.seq (.reg .seq) .leaf)))))))))
theorem C11.mono {colors1 : Int} {columns2 : Int} {s3 : ByteArray} {w : World} {R R' : Bool → World → Prop} (h : C11 colors1 columns2 s3 w R) (hr : ∀ r0 w', R r0 w' → R' r0 w') : C11 colors1 columns2 s3 w R' :=
  Calls.mono h fun _ _ ⟨r0, he, hR⟩ => ⟨r0, he, hr _ _ hR⟩
set_option maxRecDepth 100000 in
theorem T11 (colors1 : Int) (columns2 : Int) (s3 : ByteArray) (w : World) (R : Bool → World → Prop) (h : S11 colors1 columns2 s3 w R) : C11 colors1 columns2 s3 w R := by
  have e : fnT Try.prog FF pl11 Try.f11 [.int .u8 colors1, .int .u8 columns2, .string s3] w [(.one .bool)] (fun s w => R s w) = S11 colors1 columns2 s3 w R := by kernel_rfl
  exact (fn_calls okF okM Try.func11 (by kernel_rfl) (by kernel_rfl) (e.mpr h)).mono fun _ _ ⟨s, he, hR⟩ => ⟨s, he, hR⟩

end Go.Proofs.Ytahdpfjikmechaa
