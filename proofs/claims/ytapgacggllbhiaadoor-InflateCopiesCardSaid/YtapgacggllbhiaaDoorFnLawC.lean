/- The formulas of 4 functions of the program, written by program (gen.py); the kernel checks each. No condition. -/
import Derived.Test.YtapgacggllbhiaaDoorFn
import Derived.Test.YtapgacggllbhiaaDoorFnBit
import Derived.Test.YtapgacggllbhiaaDoorFnCode
import Derived.Test.YtapgacggllbhiaaDoorFnInf
import Derived.Test.YtapgacggllbhiaaDoorFnLawI
namespace Go.Proofs.YtapgacggllbhiaaDoor
open Sh
set_option linter.unusedVariables false
set_option maxRecDepth 100000

def C21 (t1 : Option Addr) (vw2 : Option Addr) (sign3 : Int) (w : World) (R : Int → World → Prop) : Prop :=
  Calls Tryd.prog 21 #[.pointer t1, .pointer vw2, .int .i64 sign3] w fun e w' => ∃ r0 : Int, e = .returned (.int .i64 r0) ∧ R r0 w'
theorem C21.mono {t1 : Option Addr} {vw2 : Option Addr} {sign3 : Int} {w : World} {R R' : Int → World → Prop} (h : C21 t1 vw2 sign3 w R) (hr : ∀ r0 w', R r0 w' → R' r0 w') : C21 t1 vw2 sign3 w R' :=
  Calls.mono h fun _ _ ⟨r0, he, hR⟩ => ⟨r0, he, hr _ _ hR⟩
def C22 (vw1 : Option Addr) (t2 : Option Addr) (size3 : Int) (w : World) (R : Bool → World → Prop) : Prop :=
  Calls Tryd.prog 22 #[.pointer vw1, .pointer t2, .int .i64 size3] w fun e w' => ∃ r0 : Bool, e = .returned (.bool r0) ∧ R r0 w'
theorem C22.mono {vw1 : Option Addr} {t2 : Option Addr} {size3 : Int} {w : World} {R R' : Bool → World → Prop} (h : C22 vw1 t2 size3 w R) (hr : ∀ r0 w', R r0 w' → R' r0 w') : C22 vw1 t2 size3 w R' :=
  Calls.mono h fun _ _ ⟨r0, he, hR⟩ => ⟨r0, he, hr _ _ hR⟩
def C23 (vw1 : Option Addr) (t2 : Option Addr) (back3 : Int) (w : World) (R : Bool → World → Prop) : Prop :=
  Calls Tryd.prog 23 #[.pointer vw1, .pointer t2, .int .i64 back3] w fun e w' => ∃ r0 : Bool, e = .returned (.bool r0) ∧ R r0 w'
theorem C23.mono {vw1 : Option Addr} {t2 : Option Addr} {back3 : Int} {w : World} {R R' : Bool → World → Prop} (h : C23 vw1 t2 back3 w R) (hr : ∀ r0 w', R r0 w' → R' r0 w') : C23 vw1 t2 back3 w R' :=
  Calls.mono h fun _ _ ⟨r0, he, hR⟩ => ⟨r0, he, hr _ _ hR⟩
def C7 (s1 : ByteArray) (copies2 : Slc) (w : World) (R : Bool → World → Prop) (PR : Value → World → Prop) : Prop :=
  Calls Tryd.prog 7 #[.string s1, Slc.v copies2] w fun e w' => (∃ r0 : Bool, e = .returned (.bool r0) ∧ R r0 w') ∨ ∃ v, e = .panicked (onePanic v) ∧ PR v w'
theorem C7.mono {s1 : ByteArray} {copies2 : Slc} {w : World} {R R' : Bool → World → Prop} {PR PR' : Value → World → Prop} (h : C7 s1 copies2 w R PR) (hr : ∀ r0 w', R r0 w' → R' r0 w') (hp : ∀ v w', PR v w' → PR' v w') : C7 s1 copies2 w R' PR' :=
  Calls.mono h fun _ _ he => he.elim (fun ⟨r0, he, hR⟩ => .inl ⟨r0, he, hr _ _ hR⟩) fun ⟨v, he, hP⟩ => .inr ⟨v, he, hp _ _ hP⟩

def S21L1 (t1 : Option Addr) (vw2 : Option Addr) (sign3 : Int) (R : Int → World → Prop) (I14 : Int → World → Prop) (s12 : Int) (vw13 : World) : Prop :=
  Br (decide (s12 ≥ 0)) (Nn t1 fun a15 =>
    Ld vw13 (a15.add 1) Slc.v fun (x16 : Slc) =>
    0 ≤ sign3 ∧ sign3 < (x16.len : Nat) ∧ Nn x16.p fun a17 =>
    Ld vw13 (a17.add ((sign3).toNat * 1)) (Value.int .i64) fun (x18 : Int) =>
    0 ≤ s12 ∧ C20 vw2 (iand .i64 (Int.fdiv x18 (2 ^ (min (s12).toNat 64))) 1) 1 vw13 fun r19 vw20 =>
      Br (r19 != 0) (R r19 vw20) (I14 (IntKind.i64.wrap (s12 - 1)) vw20)) (R 0 vw13)
/-- (*foliant/code.Table).Write -/
def S21 (t1 : Option Addr) (vw2 : Option Addr) (sign3 : Int) (w : World) (R : Int → World → Prop) : Prop :=
  Br t1.isNone (R 1 w) (Br vw2.isNone (R 1 w) (Br (decide (sign3 < 0)) (R 1 w) (Nn t1 fun a6 =>
        Ld w a6 Slc.v fun (x7 : Slc) =>
        Br (decide (sign3 ≥ ((x7.len : Nat) : Int))) (R 1 w) (Nn t1 fun a8 =>
          Ld w a8 Slc.v fun (x9 : Slc) =>
          0 ≤ sign3 ∧ sign3 < (x9.len : Nat) ∧ Nn x9.p fun a10 =>
          Ld w (a10.add ((sign3).toNat * 1)) (Value.int .i64) fun (x11 : Int) =>
          Br (x11 == 0) (R 13 w) (Lp (σ := Int) (S21L1 t1 vw2 sign3 R) (IntKind.i64.wrap (x11 - 1)) w)))))
def pl21 : Plan := (.seq (.reg .seq) (.seq (.seq (.reg .seq) (.cond (.seq (.reg .seq) .leaf) .leaf)) (.seq (.reg .seq) (.seq (.seq (.reg .seq) (.cond (.seq (.reg .seq) .leaf) .leaf)) (.seq (.seq (.reg .seq) (.block (.loop [(8, (.one (.int .i64)))] [0, 1, 2] (.seq (.seq (.reg .seq) (.cond .leaf .leaf)) (.seq (.block (.seq (.reg .seq) (.seq (.reg .seq) (.cond (.seq (.reg .seq) .leaf) .leaf)))) (.reg .seq)))))) (.seq (.reg .seq) .leaf))))))
set_option maxRecDepth 100000 in
theorem T21 (t1 : Option Addr) (vw2 : Option Addr) (sign3 : Int) (w : World) (R : Int → World → Prop) (h : S21 t1 vw2 sign3 w R) : C21 t1 vw2 sign3 w R := by
  have e : fnT Tryd.prog ⟨FF, MAY, (fun _ _ => False)⟩ pl21 Tryd.f21 [.pointer t1, .pointer vw2, .int .i64 sign3] w [(.one (.int .i64))] (fun s w => R s w) = S21 t1 vw2 sign3 w R := by kernel_rfl
  exact (fn_calls okF okM Tryd.func21 (by kernel_rfl) (by kernel_rfl) (e.mpr h)).mono fun _ _ ⟨s, he, hR⟩ => ⟨s, he, hR⟩

def S22L1 (vw1 : Option Addr) (t2 : Option Addr) (size3 : Int) (s4 : Int) (I6 : Int → World → Prop) (R : Bool → World → Prop) (I9 : Int → World → Prop) (s7 : Int) (vw8 : World) : Prop :=
  Br (decide (s7 ≤ 5)) (C11 s4 0 vw8 fun r10 r11 vw12 =>
      0 ≤ (IntKind.u64.wrap s7) ∧ C11 s4 (IntKind.i64.wrap ((IntKind.i64.wrap (1 * 2 ^ (min (IntKind.u64.wrap s7).toNat 64))) - 1)) vw12 fun r13 r14 vw15 =>
        0 ≤ (IntKind.u64.wrap s7) ∧ C11 s4 (IntKind.i64.wrap (1 * 2 ^ (min (IntKind.u64.wrap s7).toNat 64))) vw15 fun r16 r17 vw18 =>
          Br (r11 == 0) (Br (r14 == 0) (Br (r17 != 0) (Br (decide (size3 ≥ r10)) (0 ≤ (IntKind.u64.wrap s7) ∧ Lt (decide (size3 < (IntKind.i64.wrap (r10 + (IntKind.i64.wrap (1 * 2 ^ (min (IntKind.u64.wrap s7).toNat 64))))))) fun (x19 : Bool) =>
                  Br x19 (C21 t2 vw1 s4 vw18 fun r20 vw21 =>
                      Br (r20 == 0) (C20 vw1 (IntKind.i64.wrap (size3 - r10)) s7 vw21 fun r22 vw23 =>
                          R (r22 == 0) vw23) (R false vw21)) (I9 (IntKind.i64.wrap (s7 + 1)) vw18)) (I9 (IntKind.i64.wrap (s7 + 1)) vw18)) (I9 (IntKind.i64.wrap (s7 + 1)) vw18)) (I9 (IntKind.i64.wrap (s7 + 1)) vw18)) (I9 (IntKind.i64.wrap (s7 + 1)) vw18)) (I6 (IntKind.i64.wrap (s4 + 1)) vw8)
def S22L2 (vw1 : Option Addr) (t2 : Option Addr) (size3 : Int) (R : Bool → World → Prop) (I6 : Int → World → Prop) (s4 : Int) (vw5 : World) : Prop :=
  Br (decide (s4 ≤ 285)) (Lp (σ := Int) (S22L1 vw1 t2 size3 s4 I6 R) 0 vw5) (R false vw5)
/-- foliant/foliantlaw11.sized -/
def S22 (vw1 : Option Addr) (t2 : Option Addr) (size3 : Int) (w : World) (R : Bool → World → Prop) : Prop :=
  Lp (σ := Int) (S22L2 vw1 t2 size3 R) 257 w
def pl22 : Plan := (.seq (.reg .seq) (.seq (.seq (.reg .seq) (.block (.loop [(7, (.one (.int .i64)))] [0, 1, 2] (.seq (.seq (.reg .seq) (.cond .leaf .leaf)) (.seq (.block (.seq (.reg .seq) (.block (.loop [(8, (.one (.int .i64)))] [0, 1, 2, 7] (.seq (.seq (.reg .seq) (.cond .leaf .leaf)) (.seq (.block (.seq (.reg .seq) (.seq (.reg .seq) (.seq (.reg .seq) (.seq (.reg .seq) (.cond (.seq (.reg .seq) .leaf) .leaf)))))) (.reg .seq))))))) (.reg .seq)))))) (.seq (.reg .seq) .leaf)))
set_option maxRecDepth 100000 in
theorem T22 (vw1 : Option Addr) (t2 : Option Addr) (size3 : Int) (w : World) (R : Bool → World → Prop) (h : S22 vw1 t2 size3 w R) : C22 vw1 t2 size3 w R := by
  have e : fnT Tryd.prog ⟨FF, MAY, (fun _ _ => False)⟩ pl22 Tryd.f22 [.pointer vw1, .pointer t2, .int .i64 size3] w [(.one .bool)] (fun s w => R s w) = S22 vw1 t2 size3 w R := by kernel_rfl
  exact (fn_calls okF okM Tryd.func22 (by kernel_rfl) (by kernel_rfl) (e.mpr h)).mono fun _ _ ⟨s, he, hR⟩ => ⟨s, he, hR⟩

def S23L1 (vw1 : Option Addr) (t2 : Option Addr) (back3 : Int) (s4 : Int) (I6 : Int → World → Prop) (R : Bool → World → Prop) (I9 : Int → World → Prop) (s7 : Int) (vw8 : World) : Prop :=
  Br (decide (s7 ≤ 13)) (C13 s4 0 vw8 fun r10 r11 vw12 =>
      0 ≤ (IntKind.u64.wrap s7) ∧ C13 s4 (IntKind.i64.wrap ((IntKind.i64.wrap (1 * 2 ^ (min (IntKind.u64.wrap s7).toNat 64))) - 1)) vw12 fun r13 r14 vw15 =>
        0 ≤ (IntKind.u64.wrap s7) ∧ C13 s4 (IntKind.i64.wrap (1 * 2 ^ (min (IntKind.u64.wrap s7).toNat 64))) vw15 fun r16 r17 vw18 =>
          Br (r11 == 0) (Br (r14 == 0) (Br (r17 != 0) (Br (decide (back3 ≥ r10)) (0 ≤ (IntKind.u64.wrap s7) ∧ Lt (decide (back3 < (IntKind.i64.wrap (r10 + (IntKind.i64.wrap (1 * 2 ^ (min (IntKind.u64.wrap s7).toNat 64))))))) fun (x19 : Bool) =>
                  Br x19 (C21 t2 vw1 s4 vw18 fun r20 vw21 =>
                      Br (r20 == 0) (C20 vw1 (IntKind.i64.wrap (back3 - r10)) s7 vw21 fun r22 vw23 =>
                          R (r22 == 0) vw23) (R false vw21)) (I9 (IntKind.i64.wrap (s7 + 1)) vw18)) (I9 (IntKind.i64.wrap (s7 + 1)) vw18)) (I9 (IntKind.i64.wrap (s7 + 1)) vw18)) (I9 (IntKind.i64.wrap (s7 + 1)) vw18)) (I9 (IntKind.i64.wrap (s7 + 1)) vw18)) (I6 (IntKind.i64.wrap (s4 + 1)) vw8)
def S23L2 (vw1 : Option Addr) (t2 : Option Addr) (back3 : Int) (R : Bool → World → Prop) (I6 : Int → World → Prop) (s4 : Int) (vw5 : World) : Prop :=
  Br (decide (s4 ≤ 29)) (Lp (σ := Int) (S23L1 vw1 t2 back3 s4 I6 R) 0 vw5) (R false vw5)
/-- foliant/foliantlaw11.backed -/
def S23 (vw1 : Option Addr) (t2 : Option Addr) (back3 : Int) (w : World) (R : Bool → World → Prop) : Prop :=
  Lp (σ := Int) (S23L2 vw1 t2 back3 R) 0 w
def pl23 : Plan := (.seq (.reg .seq) (.seq (.seq (.reg .seq) (.block (.loop [(7, (.one (.int .i64)))] [0, 1, 2] (.seq (.seq (.reg .seq) (.cond .leaf .leaf)) (.seq (.block (.seq (.reg .seq) (.block (.loop [(8, (.one (.int .i64)))] [0, 1, 2, 7] (.seq (.seq (.reg .seq) (.cond .leaf .leaf)) (.seq (.block (.seq (.reg .seq) (.seq (.reg .seq) (.seq (.reg .seq) (.seq (.reg .seq) (.cond (.seq (.reg .seq) .leaf) .leaf)))))) (.reg .seq))))))) (.reg .seq)))))) (.seq (.reg .seq) .leaf)))
set_option maxRecDepth 100000 in
theorem T23 (vw1 : Option Addr) (t2 : Option Addr) (back3 : Int) (w : World) (R : Bool → World → Prop) (h : S23 vw1 t2 back3 w R) : C23 vw1 t2 back3 w R := by
  have e : fnT Tryd.prog ⟨FF, MAY, (fun _ _ => False)⟩ pl23 Tryd.f23 [.pointer vw1, .pointer t2, .int .i64 back3] w [(.one .bool)] (fun s w => R s w) = S23 vw1 t2 back3 w R := by kernel_rfl
  exact (fn_calls okF okM Tryd.func23 (by kernel_rfl) (by kernel_rfl) (e.mpr h)).mono fun _ _ ⟨s, he, hR⟩ => ⟨s, he, hR⟩

def S7L1 (s78 : Slc × Int) (vw79 : World) (I80 : (Slc × Int) → World → Prop) (I99 : (Slc × Int) → World → Prop) (s97 : Slc × Int) (vw98 : World) : Prop :=
  Ld vw98 (⟨vw79.heap.size, 0, none⟩ : Addr) (Value.int .i64) fun (x100 : Int) =>
  Br (decide (s97.2 < x100)) (Ld vw98 ((⟨vw79.heap.size, 0, none⟩ : Addr).add 1) (Value.int .i64) fun (x101 : Int) =>
    0 ≤ (IntKind.i64.wrap (((s97.1.len : Nat) : Int) - x101)) ∧ (IntKind.i64.wrap (((s97.1.len : Nat) : Int) - x101)) < (s97.1.len : Nat) ∧ Nn s97.1.p fun a102 =>
    Ld vw98 (a102.add ((IntKind.i64.wrap (((s97.1.len : Nat) : Int) - x101)).toNat * 1)) (Value.int .u8) fun (x103 : Int) =>
    Nw vw98 (.cells #[.int .u8 x103] 5) fun vw104 =>
    Rn Tryd.prog (Builtin.append_ #[34, 34] 34 #[Slc.v s97.1, Slc.v ((⟨some ⟨vw98.heap.size, 0, none⟩, 1, 1⟩ : Slc))]) vw104 Slc.v fun (x105 : Slc) vw106 =>
    I99 (x105, IntKind.i64.wrap (s97.2 + 1)) vw106) (I80 (s97.1, IntKind.i64.wrap (s78.2 + 1)) vw98)
def S7L2 (copies2 : Slc) (r10 : Option Addr) (r13 : Option Addr) (r16 : Option Addr) (R : Bool → World → Prop) (I80 : (Slc × Int) → World → Prop) (s78 : Slc × Int) (vw79 : World) : Prop :=
  Br (decide (s78.2 < ((copies2.len : Nat) : Int))) (0 ≤ s78.2 ∧ s78.2 < (copies2.len : Nat) ∧ Nn copies2.p fun a81 =>
    Ld vw79 (a81.add ((s78.2).toNat * 2)) (Value.int .i64) fun (x82 : Int) =>
    Ld vw79 ((a81.add ((s78.2).toNat * 2)).add 1) (Value.int .i64) fun (x83 : Int) =>
    Nw vw79 (.cells #[.int .i64 0, .int .i64 0] 45) fun vw84 =>
    St vw84 (⟨vw79.heap.size, 0, none⟩ : Addr) (.int .i64 x82) fun vw85 =>
    St vw85 ((⟨vw79.heap.size, 0, none⟩ : Addr).add 1) (.int .i64 x83) fun vw86 =>
    Ld vw86 (⟨vw79.heap.size, 0, none⟩ : Addr) (Value.int .i64) fun (x87 : Int) =>
    Br (decide (x87 < 3)) (R true vw86) (Ld vw86 (⟨vw79.heap.size, 0, none⟩ : Addr) (Value.int .i64) fun (x88 : Int) =>
      Br (decide (x88 > 258)) (R true vw86) (Ld vw86 ((⟨vw79.heap.size, 0, none⟩ : Addr).add 1) (Value.int .i64) fun (x89 : Int) =>
        Br (decide (x89 < 1)) (R true vw86) (Ld vw86 ((⟨vw79.heap.size, 0, none⟩ : Addr).add 1) (Value.int .i64) fun (x90 : Int) =>
          Br (decide (x90 > ((s78.1.len : Nat) : Int))) (R true vw86) (Ld vw86 (⟨vw79.heap.size, 0, none⟩ : Addr) (Value.int .i64) fun (x91 : Int) =>
            C22 r16 r10 x91 vw86 fun r92 vw93 =>
              Br (!r92) (R false vw93) (Ld vw93 ((⟨vw79.heap.size, 0, none⟩ : Addr).add 1) (Value.int .i64) fun (x94 : Int) =>
                C23 r16 r13 x94 vw93 fun r95 vw96 =>
                  Br (!r95) (R false vw96) (Lp (σ := Slc × Int) (S7L1 s78 vw79 I80) (s78.1, 0) vw96))))))) (C21 r10 r16 256 vw79 fun r109 vw110 =>
      Br (r109 != 0) (R false vw110) (C24 r16 vw110 fun vw111 =>
          C25 r16 vw111 fun r112 vw113 =>
            C9 r112 ((s78.1.len : Nat) : Int) vw113 fun r114 r115 r116 vw117 =>
              C9 r112 (IntKind.i64.wrap (((s78.1.len : Nat) : Int) - 1)) vw117 fun r118 r119 r120 vw121 =>
                Rn Tryd.prog (convert 34 9 (Slc.v s78.1)) vw121 Value.string fun (x122 : ByteArray) vw123 =>
                Br (r114.toList == x122.toList) (Br (r115 == (((r112).size : Nat) : Int)) (Br (r116 == 0) (Br (((s78.1.len : Nat) : Int) == 0) (Br (r120 == 1) (R true vw123) (Br (decide (((s78.1.len : Nat) : Int) > 0)) (R (r120 == 5) vw123) (R false vw123))) (Br (decide (((s78.1.len : Nat) : Int) > 0)) (R (r120 == 5) vw123) (R false vw123))) (R false vw123)) (R false vw123)) (R false vw123)))
def S7L3 (s1 : ByteArray) (copies2 : Slc) (r10 : Option Addr) (r13 : Option Addr) (r16 : Option Addr) (R : Bool → World → Prop) (I33 : Int → World → Prop) (s31 : Int) (vw32 : World) : Prop :=
  Br (decide (s31 < (((s1).size : Nat) : Int))) (0 ≤ s31 ∧ s31 < ((s1).size : Nat) ∧ C21 r10 r16 (IntKind.i64.wrap (bAt s1 s31)) vw32 fun r34 vw35 =>
      Br (r34 != 0) (R false vw35) (I33 (IntKind.i64.wrap (s31 + 1)) vw35)) (Rn Tryd.prog (convert 9 34 (.string s1)) vw32 Slc.v fun (x36 : Slc) vw37 =>
    Lp (σ := Slc × Int) (S7L2 copies2 r10 r13 r16 R) (x36, 0) vw37)
/-- foliant/foliantlaw11.InflateCopies -/
def S7 (s1 : ByteArray) (copies2 : Slc) (w : World) (R : Bool → World → Prop) (PR : Value → World → Prop) : Prop :=
  C8 w (fun r5 vw6 =>
    Br (!r5) (R false vw6) (Br (decide ((((s1).size : Nat) : Int) > 200)) (R true vw6) (Br (decide (((copies2.len : Nat) : Int) > 20)) (R true vw6) (C15 vw6 (fun r7 r8 vw9 =>
            C18 r7 vw9 fun r10 r11 vw12 =>
              C18 r8 vw12 fun r13 r14 vw15 =>
                C19 vw15 fun r16 vw17 =>
                  Br (r11 != 0) (R false vw17) (Br (r14 != 0) (R false vw17) (Br r10.isNone (R false vw17) (Br r13.isNone (R false vw17) (Br r16.isNone (R false vw17) (C20 r16 1 1 vw17 fun r22 vw23 =>
                              Br (r22 != 0) (R false vw23) (C20 r16 1 2 vw23 fun r24 vw25 =>
                                  Br (r24 != 0) (R false vw25) (Lp (σ := Int) (S7L3 s1 copies2 r10 r13 r16 R) 0 vw25)))))))) PR)))) PR
def pl7 : Plan := (.seq (.reg .seq) (.seq (.seq (.reg .seq) (.cond (.seq (.reg .seq) .leaf) .leaf)) (.seq (.seq (.reg .seq) (.cond (.seq (.reg .seq) .leaf) .leaf)) (.seq (.reg .seq) (.seq (.reg .seq) (.seq (.reg .seq) (.seq (.reg .seq) (.seq (.seq (.reg .seq) (.cond (.seq (.reg .seq) .leaf) .leaf)) (.seq (.seq (.reg .seq) (.block (.loop [(12, (.one (.int .i64)))] [0, 1, 7, 9, 11] (.seq (.seq (.reg .seq) (.cond .leaf .leaf)) (.seq (.block (.seq (.reg .seq) (.cond (.seq (.reg .seq) .leaf) .leaf))) (.reg .seq)))))) (.seq (.reg .seq) (.seq (.seq (.reg .seq) (.block (.loop [(13, (.one .slc)), (95, (.one (.int .i64)))] [7, 9, 11, 93, 94] (.seq (.reg .seq) (.seq (.cond .leaf .leaf) (.seq (.block (.seq (.reg .seq) (.seq (.seq (.reg .seq) (.cond (.seq (.reg .seq) .leaf) .leaf)) (.seq (.seq (.reg .seq) (.cond (.seq (.reg .seq) .leaf) .leaf)) (.seq (.reg .seq) (.block (.loop [(13, (.one .slc)), (16, (.one (.int .i64)))] [7, 9, 11, 15, 93, 94, 95] (.seq (.seq (.reg .seq) (.cond .leaf .leaf)) (.seq (.block (.reg .seq)) (.reg .seq)))))))))) (.reg .seq))))))) (.seq (.seq (.reg .seq) (.cond (.seq (.reg .seq) .leaf) .leaf)) (.seq (.reg .seq) (.seq (.reg .seq) (.seq (.reg .seq) (.seq (.reg .seq) (.seq (.reg .seq) .leaf)))))))))))))))))
set_option maxRecDepth 100000 in
theorem T7 (s1 : ByteArray) (copies2 : Slc) (w : World) (R : Bool → World → Prop) (PR : Value → World → Prop) (h : S7 s1 copies2 w R PR) : C7 s1 copies2 w R PR := by
  have e : fnT Tryd.prog ⟨FF, MAY, PR⟩ pl7 Tryd.f7 [.string s1, Slc.v copies2] w [(.one .bool)] (fun s w => R s w) = S7 s1 copies2 w R PR := by kernel_rfl
  exact (fn_callsP okF okM Tryd.func7 (by kernel_rfl) (by kernel_rfl) (e.mpr h)).mono fun _ _ he => he.elim (fun ⟨s, he, hR⟩ => .inl ⟨s, he, hR⟩) .inr

end Go.Proofs.YtapgacggllbhiaaDoor
