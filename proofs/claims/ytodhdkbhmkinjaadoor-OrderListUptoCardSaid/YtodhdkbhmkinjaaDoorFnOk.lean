/- The formulas of 14 functions of the program, written by program (gen.py); the kernel checks each. No condition. -/
import Derived.Test.YtodhdkbhmkinjaaDoorFn
import Derived.Test.YtodhdkbhmkinjaaDoorFnSs
import Derived.Test.YtodhdkbhmkinjaaDoorFnOl
namespace Go.Proofs.YtodhdkbhmkinjaaDoor
open Sh
set_option linter.unusedVariables false
set_option maxRecDepth 100000

def C35 (a0 : Option Addr) (w : World) (R : ByteArray → World → Prop) : Prop :=
  Calls Tryd.prog 35 #[.pointer a0] w fun e w' => ∃ r0 : ByteArray, e = .returned (.string r0) ∧ R r0 w'
theorem C35.mono {a0 : Option Addr} {w : World} {R R' : ByteArray → World → Prop} (h : C35 a0 w R) (hr : ∀ r0 w', R r0 w' → R' r0 w') : C35 a0 w R' :=
  Calls.mono h fun _ _ ⟨r0, he, hR⟩ => ⟨r0, he, hr _ _ hR⟩
def C52 (a0 : Option Addr) (w : World) (R : World → Prop) : Prop :=
  Calls Tryd.prog 52 #[.pointer a0] w fun e w' => e = .returned (.tuple #[]) ∧ R w'
theorem C52.mono {a0 : Option Addr} {w : World} {R R' : World → Prop} (h : C52 a0 w R) (hr : ∀ w', R w' → R' w') : C52 a0 w R' :=
  Calls.mono h fun _ _ ⟨he, hR⟩ => ⟨he, hr _ hR⟩
def C38 (s11 : Slc) (s22 : Slc) (w : World) (R : Bool → World → Prop) : Prop :=
  Calls Tryd.prog 38 #[Slc.v s11, Slc.v s22] w fun e w' => ∃ r0 : Bool, e = .returned (.bool r0) ∧ R r0 w'
theorem C38.mono {s11 : Slc} {s22 : Slc} {w : World} {R R' : Bool → World → Prop} (h : C38 s11 s22 w R) (hr : ∀ r0 w', R r0 w' → R' r0 w') : C38 s11 s22 w R' :=
  Calls.mono h fun _ _ ⟨r0, he, hR⟩ => ⟨r0, he, hr _ _ hR⟩
def C37 (x1 : TyA39) (y2 : TyA39) (w : World) (R : Bool → World → Prop) : Prop :=
  Calls Tryd.prog 37 #[.agg (Sig.cells LiA39 x1).toArray, .agg (Sig.cells LiA39 y2).toArray] w fun e w' => ∃ r0 : Bool, e = .returned (.bool r0) ∧ R r0 w'
theorem C37.mono {x1 : TyA39} {y2 : TyA39} {w : World} {R R' : Bool → World → Prop} (h : C37 x1 y2 w R) (hr : ∀ r0 w', R r0 w' → R' r0 w') : C37 x1 y2 w R' :=
  Calls.mono h fun _ _ ⟨r0, he, hR⟩ => ⟨r0, he, hr _ _ hR⟩
def C36 (s11 : Slc) (s22 : Slc) (eq3 : Value) (w : World) (R : Bool → World → Prop) : Prop :=
  Calls Tryd.prog 36 #[Slc.v s11, Slc.v s22, eq3] w fun e w' => ∃ r0 : Bool, e = .returned (.bool r0) ∧ R r0 w'
theorem C36.mono {s11 : Slc} {s22 : Slc} {eq3 : Value} {w : World} {R R' : Bool → World → Prop} (h : C36 s11 s22 eq3 w R) (hr : ∀ r0 w', R r0 w' → R' r0 w') : C36 s11 s22 eq3 w R' :=
  Calls.mono h fun _ _ ⟨r0, he, hR⟩ => ⟨r0, he, hr _ _ hR⟩
def C33 (b1 : Option Addr) (c2 : Int) (w : World) (R : Value → World → Prop) : Prop :=
  Calls Tryd.prog 33 #[.pointer b1, .int .u8 c2] w fun e w' => ∃ r0 : Value, e = .returned r0 ∧ R r0 w'
theorem C33.mono {b1 : Option Addr} {c2 : Int} {w : World} {R R' : Value → World → Prop} (h : C33 b1 c2 w R) (hr : ∀ r0 w', R r0 w' → R' r0 w') : C33 b1 c2 w R' :=
  Calls.mono h fun _ _ ⟨r0, he, hR⟩ => ⟨r0, he, hr _ _ hR⟩
def C34 (b1 : Option Addr) (s2 : ByteArray) (w : World) (R : Int → Value → World → Prop) : Prop :=
  Calls Tryd.prog 34 #[.pointer b1, .string s2] w fun e w' => ∃ r0 : Int, ∃ r1 : Value, e = .returned (.tuple #[.int .i64 r0, r1]) ∧ R r0 r1 w'
theorem C34.mono {b1 : Option Addr} {s2 : ByteArray} {w : World} {R R' : Int → Value → World → Prop} (h : C34 b1 s2 w R) (hr : ∀ r0 r1 w', R r0 r1 w' → R' r0 r1 w') : C34 b1 s2 w R' :=
  Calls.mono h fun _ _ ⟨r0, r1, he, hR⟩ => ⟨r0, r1, he, hr _ _ _ hR⟩
def C17 (l1 : Slc) (w : World) (R : ByteArray → World → Prop) : Prop :=
  Calls Tryd.prog 17 #[Slc.v l1] w fun e w' => ∃ r0 : ByteArray, e = .returned (.string r0) ∧ R r0 w'
theorem C17.mono {l1 : Slc} {w : World} {R R' : ByteArray → World → Prop} (h : C17 l1 w R) (hr : ∀ r0 w', R r0 w' → R' r0 w') : C17 l1 w R' :=
  Calls.mono h fun _ _ ⟨r0, he, hR⟩ => ⟨r0, he, hr _ _ hR⟩
def C19 (a1 : Slc) (b2 : Slc) (w : World) (R : Bool → World → Prop) : Prop :=
  Calls Tryd.prog 19 #[Slc.v a1, Slc.v b2] w fun e w' => ∃ r0 : Bool, e = .returned (.bool r0) ∧ R r0 w'
theorem C19.mono {a1 : Slc} {b2 : Slc} {w : World} {R R' : Bool → World → Prop} (h : C19 a1 b2 w R) (hr : ∀ r0 w', R r0 w' → R' r0 w') : C19 a1 b2 w R' :=
  Calls.mono h fun _ _ ⟨r0, he, hR⟩ => ⟨r0, he, hr _ _ hR⟩
def C23 (w : World) (R : Slc → World → Prop) : Prop :=
  Calls Tryd.prog 23 #[] w fun e w' => ∃ r0 : Slc, e = .returned (Slc.v r0) ∧ R r0 w'
theorem C23.mono {w : World} {R R' : Slc → World → Prop} (h : C23 w R) (hr : ∀ r0 w', R r0 w' → R' r0 w') : C23 w R' :=
  Calls.mono h fun _ _ ⟨r0, he, hR⟩ => ⟨r0, he, hr _ _ hR⟩
def C8 (w : World) (R : Bool → World → Prop) : Prop :=
  Calls Tryd.prog 8 #[] w fun e w' => ∃ r0 : Bool, e = .returned (.bool r0) ∧ R r0 w'
theorem C8.mono {w : World} {R R' : Bool → World → Prop} (h : C8 w R) (hr : ∀ r0 w', R r0 w' → R' r0 w') : C8 w R' :=
  Calls.mono h fun _ _ ⟨r0, he, hR⟩ => ⟨r0, he, hr _ _ hR⟩
def C21 (n1 : Int) (w : World) (R : Bool → World → Prop) : Prop :=
  Calls Tryd.prog 21 #[.int .i64 n1] w fun e w' => ∃ r0 : Bool, e = .returned (.bool r0) ∧ R r0 w'
theorem C21.mono {n1 : Int} {w : World} {R R' : Bool → World → Prop} (h : C21 n1 w R) (hr : ∀ r0 w', R r0 w' → R' r0 w') : C21 n1 w R' :=
  Calls.mono h fun _ _ ⟨r0, he, hR⟩ => ⟨r0, he, hr _ _ hR⟩
def C6 (l1 : Slc) (x2 : Int) (y3 : Int) (w : World) (R : Bool → World → Prop) : Prop :=
  Calls Tryd.prog 6 #[Slc.v l1, .int .i64 x2, .int .i64 y3] w fun e w' => ∃ r0 : Bool, e = .returned (.bool r0) ∧ R r0 w'
theorem C6.mono {l1 : Slc} {x2 : Int} {y3 : Int} {w : World} {R R' : Bool → World → Prop} (h : C6 l1 x2 y3 w R) (hr : ∀ r0 w', R r0 w' → R' r0 w') : C6 l1 x2 y3 w R' :=
  Calls.mono h fun _ _ ⟨r0, he, hR⟩ => ⟨r0, he, hr _ _ hR⟩
def C20 (s1 : ByteArray) (w : World) (R : Bool → World → Prop) : Prop :=
  Calls Tryd.prog 20 #[.string s1] w fun e w' => ∃ r0 : Bool, e = .returned (.bool r0) ∧ R r0 w'
theorem C20.mono {s1 : ByteArray} {w : World} {R R' : Bool → World → Prop} (h : C20 s1 w R) (hr : ∀ r0 w', R r0 w' → R' r0 w') : C20 s1 w R' :=
  Calls.mono h fun _ _ ⟨r0, he, hR⟩ => ⟨r0, he, hr _ _ hR⟩





def S38L1 (s11 : Slc) (s22 : Slc) (R : Bool → World → Prop) (I5 : Int → World → Prop) (s3 : Int) (vw4 : World) : Prop :=
  Br (decide (s3 < ((s11.len : Nat) : Int))) (0 ≤ s3 ∧ s3 < (s11.len : Nat) ∧ Nn s11.p fun a6 =>
    LdT vw4.drew (a6.add ((s3).toNat * 5)) 0 LiA43 fun (x7 : TyA43) =>
    0 ≤ s3 ∧ s3 < (s22.len : Nat) ∧ Nn s22.p fun a8 =>
    LdT vw4.drew (a8.add ((s3).toNat * 5)) 0 LiA43 fun (x9 : TyA43) =>
    Lt (!((x7.1.toList == x9.1.toList) && (((x7.2.1 == x9.2.1) && ((x7.2.2.1 == x9.2.2.1) && ((x7.2.2.2.1 == x9.2.2.2.1) && ((x7.2.2.2.2 == x9.2.2.2.2) && true)))) && true))) fun (x10 : Bool) =>
    Br x10 (R false vw4.drew) (I5 (IntKind.i64.wrap (s3 + 1)) vw4.drew)) (R true vw4)
/-- slices.Equal[[]foliant/api.Word,foliant/api.Word] -/
def S38 (s11 : Slc) (s22 : Slc) (w : World) (R : Bool → World → Prop) : Prop :=
  Br (((s11.len : Nat) : Int) != ((s22.len : Nat) : Int)) (R false w) (Lp (σ := Int) (S38L1 s11 s22 R) 0 w)
def pl38 : Plan := (.seq (.reg .seq) (.seq (.seq (.reg .seq) (.cond (.seq (.reg .seq) .leaf) .leaf)) (.seq (.seq (.reg .seq) (.block (.loop [(13, (.one (.int .i64)))] [0, 1, 12] (.seq (.reg .seq) (.seq (.cond .leaf .leaf) (.seq (.block (.seq (.reg .seq) (.seq (.reg .still) (.cond (.seq (.reg .seq) .leaf) .leaf)))) (.reg .seq))))))) (.seq (.reg .seq) .leaf))))
set_option maxRecDepth 100000 in
theorem T38 (s11 : Slc) (s22 : Slc) (w : World) (R : Bool → World → Prop) (h : S38 s11 s22 w R) : C38 s11 s22 w R := by
  have e : fnT Tryd.prog ⟨FF, MAY, (fun _ _ => False)⟩ pl38 Tryd.f38 [Slc.v s11, Slc.v s22] w [(.one .bool)] (fun s w => R s w) = S38 s11 s22 w R := by kernel_rfl
  exact (fn_calls okF okM Tryd.func38 (by kernel_rfl) (by kernel_rfl) (e.mpr h)).mono fun _ _ ⟨s, he, hR⟩ => ⟨s, he, hR⟩

/-- foliant/order.Same$1 -/
def S37 (x1 : TyA39) (y2 : TyA39) (w : World) (R : Bool → World → Prop) : Prop :=
  Nw w (.cells (Sig.cells LiA39 x1).toArray 40) fun vw3 =>
  Nw vw3 (.cells (Sig.cells LiA39 y2).toArray 40) fun vw4 =>
  Ld vw4 ((⟨w.heap.size, 0, none⟩ : Addr).add 1) (Value.int .i64) fun (x5 : Int) =>
  Ld vw4 (((⟨w.heap.size, 0, none⟩ : Addr).add 1).add 1) (Value.int .i64) fun (x6 : Int) =>
  Ld vw4 (((⟨w.heap.size, 0, none⟩ : Addr).add 1).add 2) (Value.int .i64) fun (x7 : Int) =>
  Ld vw4 (((⟨w.heap.size, 0, none⟩ : Addr).add 1).add 3) (Value.int .i64) fun (x8 : Int) =>
  Ld vw4 ((⟨vw3.heap.size, 0, none⟩ : Addr).add 1) (Value.int .i64) fun (x9 : Int) =>
  Ld vw4 (((⟨vw3.heap.size, 0, none⟩ : Addr).add 1).add 1) (Value.int .i64) fun (x10 : Int) =>
  Ld vw4 (((⟨vw3.heap.size, 0, none⟩ : Addr).add 1).add 2) (Value.int .i64) fun (x11 : Int) =>
  Ld vw4 (((⟨vw3.heap.size, 0, none⟩ : Addr).add 1).add 3) (Value.int .i64) fun (x12 : Int) =>
  Br ((x5 == x9) && ((x6 == x10) && ((x7 == x11) && ((x8 == x12) && true)))) (Ld vw4 (⟨w.heap.size, 0, none⟩ : Addr) Slc.v fun (x13 : Slc) =>
    Ld vw4 (⟨vw3.heap.size, 0, none⟩ : Addr) Slc.v fun (x14 : Slc) =>
    C38 x13 x14 vw4 fun r15 vw16 =>
      R r15 vw16) (R false vw4)
def pl37 : Plan := (.seq (.reg .seq) (.seq (.reg .seq) .leaf))
set_option maxRecDepth 100000 in
theorem T37 (x1 : TyA39) (y2 : TyA39) (w : World) (R : Bool → World → Prop) (h : S37 x1 y2 w R) : C37 x1 y2 w R := by
  have e : fnT Tryd.prog ⟨FF, MAY, (fun _ _ => False)⟩ pl37 Tryd.f37 [.agg (Sig.cells LiA39 x1).toArray, .agg (Sig.cells LiA39 y2).toArray] w [(.one .bool)] (fun s w => R s w) = S37 x1 y2 w R := by kernel_rfl
  exact (fn_calls okF okM Tryd.func37 (by kernel_rfl) (by kernel_rfl) (e.mpr h)).mono fun _ _ ⟨s, he, hR⟩ => ⟨s, he, hR⟩

def S36_F37L1 (s11 : Slc) (s22 : Slc) (R : Bool → World → Prop) (I6 : Int → World → Prop) (s4 : Int) (vw5 : World) : Prop :=
  Br (decide (s4 < ((s11.len : Nat) : Int))) (0 ≤ s4 ∧ s4 < (s11.len : Nat) ∧ Nn s11.p fun a7 =>
    LdT vw5 (a7.add ((s4).toNat * 5)) 0 LiA39 fun (x8 : TyA39) =>
    Nw vw5 (.cells #[Slc.v ((⟨none, 0, 0⟩ : Slc)), .int .i64 0, .int .i64 0, .int .i64 0, .int .i64 0] 40) fun vw9 =>
    StT (⟨vw5.heap.size, 0, none⟩ : Addr) 0 LiA39 x8 vw9 fun vw10 =>
    0 ≤ s4 ∧ s4 < (s22.len : Nat) ∧ Nn s22.p fun a11 =>
    LdT vw10 (a11.add ((s4).toNat * 5)) 0 LiA39 fun (x12 : TyA39) =>
    Nw vw10 (.cells #[Slc.v ((⟨none, 0, 0⟩ : Slc)), .int .i64 0, .int .i64 0, .int .i64 0, .int .i64 0] 40) fun vw13 =>
    StT (⟨vw10.heap.size, 0, none⟩ : Addr) 0 LiA39 x12 vw13 fun vw14 =>
    LdT vw14 (⟨vw5.heap.size, 0, none⟩ : Addr) 0 LiA39 fun (x15 : TyA39) =>
    LdT vw14 (⟨vw10.heap.size, 0, none⟩ : Addr) 0 LiA39 fun (x16 : TyA39) =>
    C37 x15 x16 vw14 fun r17 vw18 =>
      Br (!r17) (R false vw18) (I6 (IntKind.i64.wrap (s4 + 1)) vw18)) (R true vw5)
/-- slices.EqualFunc[[]foliant/api.Line,[]foliant/api.Line,foliant/api.Line,foliant/api.Line] -/
def S36_F37 (s11 : Slc) (s22 : Slc) (w : World) (R : Bool → World → Prop) : Prop :=
  Br (((s11.len : Nat) : Int) != ((s22.len : Nat) : Int)) (R false w) (Lp (σ := Int) (S36_F37L1 s11 s22 R) 0 w)
def pl36_F37 : Plan := (.seq (.reg .seq) (.seq (.seq (.reg .seq) (.cond (.seq (.reg .seq) .leaf) .leaf)) (.seq (.seq (.reg .seq) (.block (.loop [(17, (.one (.int .i64)))] [1, 2, 15, 16] (.seq (.reg .seq) (.seq (.cond .leaf .leaf) (.seq (.block (.seq (.reg .seq) (.seq (.reg .seq) (.seq (.reg .seq) (.cond (.seq (.reg .seq) .leaf) .leaf))))) (.reg .seq))))))) (.seq (.reg .seq) .leaf))))
set_option maxRecDepth 100000 in
theorem T36_F37 (s11 : Slc) (s22 : Slc) (w : World) (R : Bool → World → Prop) (h : S36_F37 s11 s22 w R) : C36 s11 s22 (.func (.func 37) #[] #[]) w R := by
  have e : fnT Tryd.prog ⟨FF, MAY, (fun _ _ => False)⟩ pl36_F37 Tryd.f36 [Slc.v s11, Slc.v s22, .func (.func 37) #[] #[]] w [(.one .bool)] (fun s w => R s w) = S36_F37 s11 s22 w R := by kernel_rfl
  exact (fn_calls okF okM Tryd.func36 (by kernel_rfl) (by kernel_rfl) (e.mpr h)).mono fun _ _ ⟨s, he, hR⟩ => ⟨s, he, hR⟩

/-- (*strings.Builder).WriteByte -/
def S33 (b1 : Option Addr) (c2 : Int) (w : World) (R : Value → World → Prop) : Prop :=
  C52 b1 w fun vw3 =>
    Nn b1 fun a4 =>
    Ld vw3 (a4.add 1) Slc.v fun (x5 : Slc) =>
    Nw vw3 (.cells #[.int .u8 c2] 5) fun vw6 =>
    Rn Tryd.prog (Builtin.append_ #[65, 65] 65 #[Slc.v x5, Slc.v ((⟨some ⟨vw3.heap.size, 0, none⟩, 1, 1⟩ : Slc))]) vw6 Slc.v fun (x7 : Slc) vw8 =>
    Nn b1 fun a9 =>
    St vw8 (a9.add 1) (Slc.v x7) fun vw10 =>
    R Value.nilIface vw10
def pl33 : Plan := (.seq (.reg .seq) (.seq (.reg .seq) (.seq (.reg .seq) (.seq (.reg .seq) .leaf))))
set_option maxRecDepth 100000 in
theorem T33 (b1 : Option Addr) (c2 : Int) (w : World) (R : Value → World → Prop) (h : S33 b1 c2 w R) : C33 b1 c2 w R := by
  have e : fnT Tryd.prog ⟨FF, MAY, (fun _ _ => False)⟩ pl33 Tryd.f33 [.pointer b1, .int .u8 c2] w [(.one .raw)] (fun s w => R s w) = S33 b1 c2 w R := by kernel_rfl
  exact (fn_calls okF okM Tryd.func33 (by kernel_rfl) (by kernel_rfl) (e.mpr h)).mono fun _ _ ⟨s, he, hR⟩ => ⟨s, he, hR⟩

/-- (*strings.Builder).WriteString -/
def S34 (b1 : Option Addr) (s2 : ByteArray) (w : World) (R : Int → Value → World → Prop) : Prop :=
  C52 b1 w fun vw3 =>
    Nn b1 fun a4 =>
    Ld vw3 (a4.add 1) Slc.v fun (x5 : Slc) =>
    Rn Tryd.prog (Builtin.append_ #[65, 9] 65 #[Slc.v x5, .string s2]) vw3 Slc.v fun (x6 : Slc) vw7 =>
    Nn b1 fun a8 =>
    St vw7 (a8.add 1) (Slc.v x6) fun vw9 =>
    R (((s2).size : Nat) : Int) Value.nilIface vw9
def pl34 : Plan := (.seq (.reg .seq) (.seq (.reg .seq) (.seq (.reg .seq) (.seq (.reg .seq) .leaf))))
set_option maxRecDepth 100000 in
theorem T34 (b1 : Option Addr) (s2 : ByteArray) (w : World) (R : Int → Value → World → Prop) (h : S34 b1 s2 w R) : C34 b1 s2 w R := by
  have e : fnT Tryd.prog ⟨FF, MAY, (fun _ _ => False)⟩ pl34 Tryd.f34 [.pointer b1, .string s2] w [(.one (.int .i64)), (.one .raw)] (fun s w => R s.1 s.2 w) = S34 b1 s2 w R := by kernel_rfl
  exact (fn_calls okF okM Tryd.func34 (by kernel_rfl) (by kernel_rfl) (e.mpr h)).mono fun _ _ ⟨s, he, hR⟩ => ⟨s.1, s.2, he, hR⟩

def S17L1 (w : World) (s3 : Int) (I5 : Int → World → Prop) (x10 : Slc) (I13 : Int → World → Prop) (s11 : Int) (vw12 : World) : Prop :=
  Br (decide (s11 < ((x10.len : Nat) : Int))) (0 ≤ s11 ∧ s11 < (x10.len : Nat) ∧ Nn x10.p fun a14 =>
    LdT vw12 (a14.add ((s11).toNat * 5)) 0 LiA43 fun (x15 : TyA43) =>
    Nw vw12 (.cells #[.string ((⟨#[]⟩ : ByteArray)), .int .i64 0, .int .i64 0, .int .i64 0, .int .i64 0] 44) fun vw16 =>
    StT (⟨vw12.heap.size, 0, none⟩ : Addr) 0 LiA43 x15 vw16 fun vw17 =>
    Br (decide (s11 > 0)) (C33 (some (⟨w.heap.size, 0, none⟩ : Addr)) 32 vw17 fun r18 vw19 =>
        Ld vw19 (⟨vw12.heap.size, 0, none⟩ : Addr) Value.string fun (x20 : ByteArray) =>
        C34 (some (⟨w.heap.size, 0, none⟩ : Addr)) x20 vw19 fun r21 r22 vw23 =>
          I13 (IntKind.i64.wrap (s11 + 1)) vw23) (Ld vw17 (⟨vw12.heap.size, 0, none⟩ : Addr) Value.string fun (x24 : ByteArray) =>
      C34 (some (⟨w.heap.size, 0, none⟩ : Addr)) x24 vw17 fun r25 r26 vw27 =>
        I13 (IntKind.i64.wrap (s11 + 1)) vw27)) (C33 (some (⟨w.heap.size, 0, none⟩ : Addr)) 10 vw12 fun r28 vw29 =>
      I5 (IntKind.i64.wrap (s3 + 1)) vw29)
def S17L2 (w : World) (l1 : Slc) (R : ByteArray → World → Prop) (I5 : Int → World → Prop) (s3 : Int) (vw4 : World) : Prop :=
  Br (decide (s3 < ((l1.len : Nat) : Int))) (0 ≤ s3 ∧ s3 < (l1.len : Nat) ∧ Nn l1.p fun a6 =>
    LdT vw4 (a6.add ((s3).toNat * 5)) 0 LiA39 fun (x7 : TyA39) =>
    Nw vw4 (.cells #[Slc.v ((⟨none, 0, 0⟩ : Slc)), .int .i64 0, .int .i64 0, .int .i64 0, .int .i64 0] 40) fun vw8 =>
    StT (⟨vw4.heap.size, 0, none⟩ : Addr) 0 LiA39 x7 vw8 fun vw9 =>
    Ld vw9 (⟨vw4.heap.size, 0, none⟩ : Addr) Slc.v fun (x10 : Slc) =>
    Lp (σ := Int) (S17L1 w s3 I5 x10) 0 vw9) (C35 (some (⟨w.heap.size, 0, none⟩ : Addr)) vw4 fun r30 vw31 =>
      R r30 vw31)
/-- foliant/order.Text -/
def S17 (l1 : Slc) (w : World) (R : ByteArray → World → Prop) : Prop :=
  Nw w (.cells #[.pointer none, Slc.v ((⟨none, 0, 0⟩ : Slc))] 67) fun vw2 =>
  Lp (σ := Int) (S17L2 w l1 R) 0 vw2
def pl17 : Plan := (.seq (.reg .seq) (.seq (.reg .seq) (.seq (.seq (.reg .seq) (.block (.loop [(10, (.one (.int .i64)))] [3, 8, 9] (.seq (.reg .seq) (.seq (.cond .leaf .leaf) (.seq (.block (.seq (.reg .seq) (.seq (.seq (.reg .seq) (.block (.loop [(17, (.one (.int .i64)))] [3, 8, 9, 10, 15, 16] (.seq (.reg .seq) (.seq (.cond .leaf .leaf) (.seq (.block (.seq (.reg .seq) (.seq (.seq (.reg .seq) (.cond (.reg .seq) .leaf)) (.reg .seq)))) (.reg .seq))))))) (.reg .seq)))) (.reg .seq))))))) (.seq (.reg .seq) .leaf))))
set_option maxRecDepth 100000 in
theorem T17 (l1 : Slc) (w : World) (R : ByteArray → World → Prop) (h : S17 l1 w R) : C17 l1 w R := by
  have e : fnT Tryd.prog ⟨FF, MAY, (fun _ _ => False)⟩ pl17 Tryd.f17 [Slc.v l1] w [(.one .str)] (fun s w => R s w) = S17 l1 w R := by kernel_rfl
  exact (fn_calls okF okM Tryd.func17 (by kernel_rfl) (by kernel_rfl) (e.mpr h)).mono fun _ _ ⟨s, he, hR⟩ => ⟨s, he, hR⟩

/-- foliant/order.Same -/
def S19 (a1 : Slc) (b2 : Slc) (w : World) (R : Bool → World → Prop) : Prop :=
  C36 a1 b2 (.func (.func 37) #[] #[]) w fun r3 vw4 =>
    R r3 vw4
def pl19 : Plan := (.seq (.reg .seq) (.seq (.reg .seq) .leaf))
set_option maxRecDepth 100000 in
theorem T19 (a1 : Slc) (b2 : Slc) (w : World) (R : Bool → World → Prop) (h : S19 a1 b2 w R) : C19 a1 b2 w R := by
  have e : fnT Tryd.prog ⟨FF, MAY, (fun _ _ => False)⟩ pl19 Tryd.f19 [Slc.v a1, Slc.v b2] w [(.one .bool)] (fun s w => R s w) = S19 a1 b2 w R := by kernel_rfl
  exact (fn_calls okF okM Tryd.func19 (by kernel_rfl) (by kernel_rfl) (e.mpr h)).mono fun _ _ ⟨s, he, hR⟩ => ⟨s, he, hR⟩

/-- foliant/foliantlaw50.OrderGlyphs -/
def S23 (w : World) (R : Slc → World → Prop) : Prop :=
  Nw w (.cells #[.int .i64 0, .string ((⟨#[100]⟩ : ByteArray)), .int .i64 0, .int .i64 (-20), .int .i64 5, .int .i64 (-20), .int .i64 12, .string ((⟨#[]⟩ : ByteArray)), .int .i64 0, .int .i64 0, .string ((⟨#[97]⟩ : ByteArray)), .int .i64 0, .int .i64 0, .int .i64 5, .int .i64 0, .int .i64 12, .string ((⟨#[]⟩ : ByteArray)), .int .i64 0, .int .i64 0, .string ((⟨#[98]⟩ : ByteArray)), .int .i64 5, .int .i64 0, .int .i64 10, .int .i64 0, .int .i64 12, .string ((⟨#[]⟩ : ByteArray)), .int .i64 0, .int .i64 0, .string ((⟨#[99]⟩ : ByteArray)), .int .i64 20, .int .i64 0, .int .i64 25, .int .i64 0, .int .i64 12, .string ((⟨#[]⟩ : ByteArray)), .int .i64 0] 32) fun vw1 =>
  R (⟨some ⟨w.heap.size, 0, none⟩, 4, 4⟩ : Slc) vw1
def pl23 : Plan := (.seq (.reg .seq) (.seq (.reg .seq) .leaf))
set_option maxRecDepth 100000 in
theorem T23 (w : World) (R : Slc → World → Prop) (h : S23 w R) : C23 w R := by
  have e : fnT Tryd.prog ⟨FF, MAY, (fun _ _ => False)⟩ pl23 Tryd.f23 [] w [(.one .slc)] (fun s w => R s w) = S23 w R := by kernel_rfl
  exact (fn_calls okF okM Tryd.func23 (by kernel_rfl) (by kernel_rfl) (e.mpr h)).mono fun _ _ ⟨s, he, hR⟩ => ⟨s, he, hR⟩

/-- foliant/foliantlaw50.lives -/
def S8 (w : World) (R : Bool → World → Prop) : Prop :=
  C23 w fun r1 vw2 =>
    C9 r1 vw2 fun r3 vw4 =>
      C23 vw4 fun r5 vw6 =>
        C15 r5 vw6 fun r7 vw8 =>
          Br (((r3.len : Nat) : Int) != 2) (R false vw8) (0 ≤ (0 : Int) ∧ (0 : Int) < (r3.len : Nat) ∧ Nn r3.p fun a11 =>
            Ld vw8 (a11.add (((0 : Int)).toNat * 5)) Slc.v fun (x12 : Slc) =>
            Br (((x12.len : Nat) : Int) != 2) (R false vw8) (Br (((r7.len : Nat) : Int) != 3) (R false vw8) (0 ≤ (0 : Int) ∧ (0 : Int) < (r3.len : Nat) ∧ Nn r3.p fun a13 =>
                Ld vw8 (a13.add (((0 : Int)).toNat * 5)) Slc.v fun (x14 : Slc) =>
                0 ≤ (0 : Int) ∧ (0 : Int) < (x14.len : Nat) ∧ Nn x14.p fun a15 =>
                LdT vw8 (a15.add (((0 : Int)).toNat * 5)) 0 LiA43 fun (x16 : TyA43) =>
                Lt (((x16.1.toList == (⟨#[97, 98]⟩ : ByteArray).toList) && (((x16.2.1 == 0) && ((x16.2.2.1 == 0) && ((x16.2.2.2.1 == 10) && ((x16.2.2.2.2 == 12) && true)))) && true))) fun (x17 : Bool) =>
                Br x17 (0 ≤ (0 : Int) ∧ (0 : Int) < (r3.len : Nat) ∧ Nn r3.p fun a18 =>
                  Ld vw8 ((a18.add (((0 : Int)).toNat * 5)).add 1) (Value.int .i64) fun (x19 : Int) =>
                  Ld vw8 (((a18.add (((0 : Int)).toNat * 5)).add 1).add 1) (Value.int .i64) fun (x20 : Int) =>
                  Ld vw8 (((a18.add (((0 : Int)).toNat * 5)).add 1).add 2) (Value.int .i64) fun (x21 : Int) =>
                  Ld vw8 (((a18.add (((0 : Int)).toNat * 5)).add 1).add 3) (Value.int .i64) fun (x22 : Int) =>
                  Br ((x19 == 0) && ((x20 == 0) && ((x21 == 25) && ((x22 == 12) && true)))) (0 ≤ (1 : Int) ∧ (1 : Int) < (r7.len : Nat) ∧ Nn r7.p fun a23 =>
                    Ld vw8 (a23.add (((1 : Int)).toNat * 5)) Value.string fun (x24 : ByteArray) =>
                    Br (x24.toList == (⟨#[99]⟩ : ByteArray).toList) (0 ≤ (2 : Int) ∧ (2 : Int) < (r7.len : Nat) ∧ Nn r7.p fun a25 =>
                      Ld vw8 (a25.add (((2 : Int)).toNat * 5)) Value.string fun (x26 : ByteArray) =>
                      Br (x26.toList == (⟨#[100]⟩ : ByteArray).toList) (C17 r3 vw8 fun r27 vw28 =>
                          Br (r27.toList == (⟨#[97, 98, 32, 99, 10, 100, 10]⟩ : ByteArray).toList) (C23 vw28 fun r29 vw30 =>
                              C9 r29 vw30 fun r31 vw32 =>
                                C19 r3 r31 vw32 fun r33 vw34 =>
                                  Br r33 (C19 r3 (⟨none, 0, 0⟩ : Slc) vw34 fun r35 vw36 =>
                                      Br (!r35) (C11 ((0, (⟨#[]⟩ : ByteArray), 3, 4, 1, 2, 5, (⟨#[]⟩ : ByteArray), 0) : TyA31) vw36 fun r37 vw38 =>
                                          R ((r37.1 == 1) && ((r37.2.1 == 2) && ((r37.2.2.1 == 3) && ((r37.2.2.2 == 9) && true)))) vw38) (R false vw36)) (R false vw34)) (R false vw28)) (R false vw8)) (R false vw8)) (R false vw8)) (R false vw8))))
def pl8 : Plan := (.seq (.reg .seq) (.seq (.reg .seq) (.seq (.reg .seq) (.seq (.seq (.reg .seq) (.cond (.seq (.reg .seq) .leaf) .leaf)) (.seq (.reg .seq) .leaf)))))
set_option maxRecDepth 100000 in
theorem T8 (w : World) (R : Bool → World → Prop) (h : S8 w R) : C8 w R := by
  have e : fnT Tryd.prog ⟨FF, MAY, (fun _ _ => False)⟩ pl8 Tryd.f8 [] w [(.one .bool)] (fun s w => R s w) = S8 w R := by kernel_rfl
  exact (fn_calls okF okM Tryd.func8 (by kernel_rfl) (by kernel_rfl) (e.mpr h)).mono fun _ _ ⟨s, he, hR⟩ => ⟨s, he, hR⟩

/-- foliant/foliantlaw50.within -/
def S21 (n1 : Int) (w : World) (R : Bool → World → Prop) : Prop :=
  Br (decide (n1 ≥ (-268435456))) (R (decide (n1 ≤ 268435456)) w) (R false w)
def pl21 : Plan := (.seq (.reg .seq) (.seq (.reg .seq) .leaf))
set_option maxRecDepth 100000 in
theorem T21 (n1 : Int) (w : World) (R : Bool → World → Prop) (h : S21 n1 w R) : C21 n1 w R := by
  have e : fnT Tryd.prog ⟨FF, MAY, (fun _ _ => False)⟩ pl21 Tryd.f21 [.int .i64 n1] w [(.one .bool)] (fun s w => R s w) = S21 n1 w R := by kernel_rfl
  exact (fn_calls okF okM Tryd.func21 (by kernel_rfl) (by kernel_rfl) (e.mpr h)).mono fun _ _ ⟨s, he, hR⟩ => ⟨s, he, hR⟩

def S6L1 (x2 : Int) (y3 : Int) (r122 : Slc) (r124 : Slc) (R : Bool → World → Prop) (I128 : Int → World → Prop) (s126 : Int) (vw127 : World) : Prop :=
  Br (decide (s126 < ((r122.len : Nat) : Int))) (∃ vS129 : World → Prop, vS129 vw127.drew ∧ 0 ≤ s126 ∧ s126 < (r122.len : Nat) ∧ Nn r122.p fun a130 =>
    LdS vS129 (a130.add ((s126).toNat * 5)) Value.string fun (x131 : ByteArray) =>
    0 ≤ s126 ∧ s126 < (r124.len : Nat) ∧ Nn r124.p fun a132 =>
    LdS vS129 (a132.add ((s126).toNat * 5)) Value.string fun (x133 : ByteArray) =>
    Br (!(x131.toList == x133.toList)) (R false vw127.drew) (0 ≤ s126 ∧ s126 < (r124.len : Nat) ∧ Nn r124.p fun a134 =>
      LdS vS129 ((a134.add ((s126).toNat * 5)).add 1) (Value.int .i64) fun (x135 : Int) =>
      LdS vS129 (((a134.add ((s126).toNat * 5)).add 1).add 1) (Value.int .i64) fun (x136 : Int) =>
      LdS vS129 (((a134.add ((s126).toNat * 5)).add 1).add 2) (Value.int .i64) fun (x137 : Int) =>
      LdS vS129 (((a134.add ((s126).toNat * 5)).add 1).add 3) (Value.int .i64) fun (x138 : Int) =>
      0 ≤ s126 ∧ s126 < (r122.len : Nat) ∧ Nn r122.p fun a139 =>
      LdS vS129 ((a139.add ((s126).toNat * 5)).add 1) (Value.int .i64) fun (x140 : Int) =>
      0 ≤ s126 ∧ s126 < (r122.len : Nat) ∧ Nn r122.p fun a141 =>
      LdS vS129 (((a141.add ((s126).toNat * 5)).add 1).add 1) (Value.int .i64) fun (x142 : Int) =>
      0 ≤ s126 ∧ s126 < (r122.len : Nat) ∧ Nn r122.p fun a143 =>
      LdS vS129 (((a143.add ((s126).toNat * 5)).add 1).add 2) (Value.int .i64) fun (x144 : Int) =>
      0 ≤ s126 ∧ s126 < (r122.len : Nat) ∧ Nn r122.p fun a145 =>
      LdS vS129 (((a145.add ((s126).toNat * 5)).add 1).add 3) (Value.int .i64) fun (x146 : Int) =>
      vS129 vw127.drew ∧ Br (!((x135 == (IntKind.i64.wrap (x140 + x2))) && ((x136 == (IntKind.i64.wrap (x142 + y3))) && ((x137 == (IntKind.i64.wrap (x144 + x2))) && ((x138 == (IntKind.i64.wrap (x146 + y3))) && true))))) (R false vw127.drew) (I128 (IntKind.i64.wrap (s126 + 1)) vw127.drew))) (C8 vw127 fun r147 vw148 =>
      R r147 vw148)
def S6L2 (l1 : Slc) (x2 : Int) (y3 : Int) (R : Bool → World → Prop) (I85 : (Slc × Int) → World → Prop) (s83 : Slc × Int) (vw84 : World) : Prop :=
  Br (decide (s83.2 < ((l1.len : Nat) : Int))) (0 ≤ s83.2 ∧ s83.2 < (l1.len : Nat) ∧ Nn l1.p fun a86 =>
    LdT vw84 (a86.add ((s83.2).toNat * 9)) 0 LiA31 fun (x87 : TyA31) =>
    Nw vw84 (.cells #[.int .i64 0, .string ((⟨#[]⟩ : ByteArray)), .int .i64 0, .int .i64 0, .int .i64 0, .int .i64 0, .int .i64 0, .string ((⟨#[]⟩ : ByteArray)), .int .i64 0] 32) fun vw88 =>
    StT (⟨vw84.heap.size, 0, none⟩ : Addr) 0 LiA31 x87 vw88 fun vw89 =>
    Ld vw89 ((⟨vw84.heap.size, 0, none⟩ : Addr).add 2) (Value.int .i64) fun (x90 : Int) =>
    C21 x90 vw89 fun r91 vw92 =>
      Br (!r91) (C8 vw92 fun r93 vw94 =>
          R r93 vw94) (Ld vw92 (((⟨vw84.heap.size, 0, none⟩ : Addr).add 2).add 1) (Value.int .i64) fun (x95 : Int) =>
        C21 x95 vw92 fun r96 vw97 =>
          Br (!r96) (C8 vw97 fun r98 vw99 =>
              R r98 vw99) (Ld vw97 ((⟨vw84.heap.size, 0, none⟩ : Addr).add 4) (Value.int .i64) fun (x100 : Int) =>
            C21 x100 vw97 fun r101 vw102 =>
              Br (!r101) (C8 vw102 fun r103 vw104 =>
                  R r103 vw104) (Ld vw102 (((⟨vw84.heap.size, 0, none⟩ : Addr).add 4).add 1) (Value.int .i64) fun (x105 : Int) =>
                C21 x105 vw102 fun r106 vw107 =>
                  Br (!r106) (C8 vw107 fun r108 vw109 =>
                      R r108 vw109) (Ld vw107 ((⟨vw84.heap.size, 0, none⟩ : Addr).add 2) (Value.int .i64) fun (x110 : Int) =>
                    Ld vw107 (((⟨vw84.heap.size, 0, none⟩ : Addr).add 2).add 1) (Value.int .i64) fun (x111 : Int) =>
                    St vw107 ((⟨vw84.heap.size, 0, none⟩ : Addr).add 2) (.int .i64 (IntKind.i64.wrap (x110 + x2))) fun vw112 =>
                    St vw112 (((⟨vw84.heap.size, 0, none⟩ : Addr).add 2).add 1) (.int .i64 (IntKind.i64.wrap (x111 + y3))) fun vw113 =>
                    Ld vw113 ((⟨vw84.heap.size, 0, none⟩ : Addr).add 4) (Value.int .i64) fun (x114 : Int) =>
                    Ld vw113 (((⟨vw84.heap.size, 0, none⟩ : Addr).add 4).add 1) (Value.int .i64) fun (x115 : Int) =>
                    St vw113 ((⟨vw84.heap.size, 0, none⟩ : Addr).add 4) (.int .i64 (IntKind.i64.wrap (x114 + x2))) fun vw116 =>
                    St vw116 (((⟨vw84.heap.size, 0, none⟩ : Addr).add 4).add 1) (.int .i64 (IntKind.i64.wrap (x115 + y3))) fun vw117 =>
                    LdT vw117 (⟨vw84.heap.size, 0, none⟩ : Addr) 0 LiA31 fun (x118 : TyA31) =>
                    Nw vw117 (.cells #[.int .i64 (x118.1), .string x118.2.1, .int .i64 (x118.2.2.1), .int .i64 (x118.2.2.2.1), .int .i64 (x118.2.2.2.2.1), .int .i64 (x118.2.2.2.2.2.1), .int .i64 (x118.2.2.2.2.2.2.1), .string x118.2.2.2.2.2.2.2.1, .int .i64 (x118.2.2.2.2.2.2.2.2)] 32) fun vw119 =>
                    Rn Tryd.prog (Builtin.append_ #[22, 22] 22 #[Slc.v s83.1, Slc.v ((⟨some ⟨vw117.heap.size, 0, none⟩, 1, 1⟩ : Slc))]) vw119 Slc.v fun (x120 : Slc) vw121 =>
                    I85 (x120, IntKind.i64.wrap (s83.2 + 1)) vw121))))) (C15 l1 vw84 fun r122 vw123 =>
      C15 s83.1 vw123 fun r124 vw125 =>
        Br (((r122.len : Nat) : Int) != ((r124.len : Nat) : Int)) (R false vw125) (Lp (σ := Int) (S6L1 x2 y3 r122 r124 R) 0 vw125))
/-- foliant/foliantlaw50.OrderMoves -/
def S6 (l1 : Slc) (x2 : Int) (y3 : Int) (w : World) (R : Bool → World → Prop) : Prop :=
  Br (decide (((l1.len : Nat) : Int) > 80)) (C8 w fun r14 vw15 =>
      R r14 vw15) (C21 x2 w fun r16 vw17 =>
      Br (!r16) (C8 vw17 fun r18 vw19 =>
          R r18 vw19) (C21 y3 vw17 fun r20 vw21 =>
          Br (!r20) (C8 vw21 fun r22 vw23 =>
              R r22 vw23) (Lp (σ := Slc × Int) (S6L2 l1 x2 y3 R) ((⟨none, 0, 0⟩ : Slc), 0) vw21)))
def pl6 : Plan := (.seq (.reg .seq) (.seq (.seq (.reg .seq) (.cond (.seq (.reg .seq) .leaf) .leaf)) (.seq (.reg .seq) (.seq (.seq (.reg .seq) (.block (.loop [(7, (.one .slc)), (8, (.one (.int .i64)))] [0, 1, 2] (.seq (.seq (.reg .seq) (.cond .leaf .leaf)) (.seq (.block (.seq (.reg .seq) (.seq (.seq (.reg .seq) (.cond (.seq (.reg .seq) .leaf) .leaf)) (.seq (.reg .seq) (.seq (.reg .seq) (.reg .seq)))))) (.reg .seq)))))) (.seq (.reg .seq) (.seq (.seq (.reg .seq) (.cond (.seq (.reg .seq) .leaf) .leaf)) (.seq (.seq (.reg .seq) (.block (.loop [(12, (.one (.int .i64)))] [1, 2, 10, 11] (.seq (.seq (.reg .seq) (.cond .leaf .leaf)) (.seq (.block (.seq (.reg (.held [] (.take 0 (.take 1 (.take 2 (.take 3 (.take 4 (.take 5 (.take 6 (.take 7 (.take 8 (.take 9 (.take 10 (.take 11 (.take 12 (.take 13 (.take 14 (.take 15 (.take 16 (.take 17 (.take 18 (.take 19 (.take 20 (.take 21 (.take 22 (.take 23 (.take 24 (.take 25 (.take 26 (.take 27 (.take 28 (.take 29 (.take 30 (.take 31 (.take 32 (.take 33 (.take 34 (.take 35 (.take 36 (.take 37 (.take 38 (.take 39 (.take 40 (.take 41 (.take 42 (.take 43 (.take 44 (.take 45 (.take 46 (.take 47 (.take 48 (.eff 49 none (.take 50 (.take 51 .done)))))))))))))))))))))))))))))))))))))))))))))))))))))) (.cond (.seq (.reg .seq) .leaf) .leaf))) (.reg .seq)))))) (.seq (.reg .seq) .leaf))))))))
set_option maxRecDepth 100000 in
theorem T6 (l1 : Slc) (x2 : Int) (y3 : Int) (w : World) (R : Bool → World → Prop) (h : S6 l1 x2 y3 w R) : C6 l1 x2 y3 w R := by
  have e : fnT Tryd.prog ⟨FF, MAY, (fun _ _ => False)⟩ pl6 Tryd.f6 [Slc.v l1, .int .i64 x2, .int .i64 y3] w [(.one .bool)] (fun s w => R s w) = S6 l1 x2 y3 w R := by kernel_rfl
  exact (fn_calls okF okM Tryd.func6 (by kernel_rfl) (by kernel_rfl) (e.mpr h)).mono fun _ _ ⟨s, he, hR⟩ => ⟨s, he, hR⟩

def S20L1 (s1 : ByteArray) (R : Bool → World → Prop) (I4 : Int → World → Prop) (s2 : Int) (vw3 : World) : Prop :=
  Br (decide (s2 < (((s1).size : Nat) : Int))) (0 ≤ s2 ∧ s2 < ((s1).size : Nat) ∧ Br ((bAt s1 s2) != 9) (0 ≤ s2 ∧ s2 < ((s1).size : Nat) ∧ Br ((bAt s1 s2) != 10) (0 ≤ s2 ∧ s2 < ((s1).size : Nat) ∧ Br ((bAt s1 s2) != 13) (0 ≤ s2 ∧ s2 < ((s1).size : Nat) ∧ Br ((bAt s1 s2) != 32) (R false vw3) (I4 (IntKind.i64.wrap (s2 + 1)) vw3)) (I4 (IntKind.i64.wrap (s2 + 1)) vw3)) (I4 (IntKind.i64.wrap (s2 + 1)) vw3)) (I4 (IntKind.i64.wrap (s2 + 1)) vw3)) (R true vw3)
/-- foliant/foliantlaw50.blank -/
def S20 (s1 : ByteArray) (w : World) (R : Bool → World → Prop) : Prop :=
  Lp (σ := Int) (S20L1 s1 R) 0 w
def pl20 : Plan := (.seq (.reg .seq) (.seq (.seq (.reg .seq) (.block (.loop [(3, (.one (.int .i64)))] [0] (.seq (.seq (.reg .seq) (.cond .leaf .leaf)) (.seq (.block (.seq (.reg .seq) (.cond (.seq (.reg .seq) .leaf) .leaf))) (.reg .seq)))))) (.seq (.reg .seq) .leaf)))
set_option maxRecDepth 100000 in
theorem T20 (s1 : ByteArray) (w : World) (R : Bool → World → Prop) (h : S20 s1 w R) : C20 s1 w R := by
  have e : fnT Tryd.prog ⟨FF, MAY, (fun _ _ => False)⟩ pl20 Tryd.f20 [.string s1] w [(.one .bool)] (fun s w => R s w) = S20 s1 w R := by kernel_rfl
  exact (fn_calls okF okM Tryd.func20 (by kernel_rfl) (by kernel_rfl) (e.mpr h)).mono fun _ _ ⟨s, he, hR⟩ => ⟨s, he, hR⟩

end Go.Proofs.YtodhdkbhmkinjaaDoor
