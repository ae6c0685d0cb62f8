/- The formulas of 5 functions of the program, written by program (gen.py); the kernel checks each. No condition. -/
import Derived.Test.YtjbeembbnkmpeaaDoorFn
import Derived.Test.YtjbeembbnkmpeaaDoorFnMat
namespace Go.Proofs.YtjbeembbnkmpeaaDoor
open Sh
set_option linter.unusedVariables false
set_option maxRecDepth 100000

def C191 (n1 : Int) (least2 : Int) (most3 : Int) (w : World) (R : Bool → World → Prop) : Prop :=
  Calls Tryd.prog 191 #[.int .i64 n1, .int .i64 least2, .int .i64 most3] w fun e w' => ∃ r0 : Bool, e = .returned (.bool r0) ∧ R r0 w'
theorem C191.mono {n1 : Int} {least2 : Int} {most3 : Int} {w : World} {R R' : Bool → World → Prop} (h : C191 n1 least2 most3 w R) (hr : ∀ r0 w', R r0 w' → R' r0 w') : C191 n1 least2 most3 w R' :=
  Calls.mono h fun _ _ ⟨r0, he, hR⟩ => ⟨r0, he, hr _ _ hR⟩
def C143 (o1 : Int × Int × Int × ByteArray × Slc × Slc) (w : World) (R : Int → Bool → World → Prop) : Prop :=
  Calls Tryd.prog 143 #[.agg #[.int .i64 (o1.1), .int .i64 (o1.2.1), .int .i64 (o1.2.2.1), .string o1.2.2.2.1, Slc.v o1.2.2.2.2.1, Slc.v o1.2.2.2.2.2]] w fun e w' => ∃ r0 : Int, ∃ r1 : Bool, e = .returned (.tuple #[.int .i64 r0, .bool r1]) ∧ R r0 r1 w'
theorem C143.mono {o1 : Int × Int × Int × ByteArray × Slc × Slc} {w : World} {R R' : Int → Bool → World → Prop} (h : C143 o1 w R) (hr : ∀ r0 r1 w', R r0 r1 w' → R' r0 r1 w') : C143 o1 w R' :=
  Calls.mono h fun _ _ ⟨r0, r1, he, hR⟩ => ⟨r0, r1, he, hr _ _ _ hR⟩
def C157 (o1 : Int × Int × Int × ByteArray × Slc × Slc) (w : World) (R : Int → Bool → World → Prop) : Prop :=
  Calls Tryd.prog 157 #[.agg #[.int .i64 (o1.1), .int .i64 (o1.2.1), .int .i64 (o1.2.2.1), .string o1.2.2.2.1, Slc.v o1.2.2.2.2.1, Slc.v o1.2.2.2.2.2]] w fun e w' => ∃ r0 : Int, ∃ r1 : Bool, e = .returned (.tuple #[.int .i64 r0, .bool r1]) ∧ R r0 r1 w'
theorem C157.mono {o1 : Int × Int × Int × ByteArray × Slc × Slc} {w : World} {R R' : Int → Bool → World → Prop} (h : C157 o1 w R) (hr : ∀ r0 r1 w', R r0 r1 w' → R' r0 r1 w') : C157 o1 w R' :=
  Calls.mono h fun _ _ ⟨r0, r1, he, hR⟩ => ⟨r0, r1, he, hr _ _ _ hR⟩
def C95 (o1 : Int × Int × Int × ByteArray × Slc × Slc) (w : World) (R : Int → World → Prop) : Prop :=
  Calls Tryd.prog 95 #[.agg #[.int .i64 (o1.1), .int .i64 (o1.2.1), .int .i64 (o1.2.2.1), .string o1.2.2.2.1, Slc.v o1.2.2.2.2.1, Slc.v o1.2.2.2.2.2]] w fun e w' => ∃ r0 : Int, e = .returned (.int .i64 r0) ∧ R r0 w'
theorem C95.mono {o1 : Int × Int × Int × ByteArray × Slc × Slc} {w : World} {R R' : Int → World → Prop} (h : C95 o1 w R) (hr : ∀ r0 w', R r0 w' → R' r0 w') : C95 o1 w R' :=
  Calls.mono h fun _ _ ⟨r0, he, hR⟩ => ⟨r0, he, hr _ _ hR⟩
def C162 (n1 : Int) (w : World) (R : (Int × Int × Int × ByteArray × Slc × Slc) → World → Prop) : Prop :=
  Calls Tryd.prog 162 #[.int .i64 n1] w fun e w' => ∃ r0 : Int × Int × Int × ByteArray × Slc × Slc, e = .returned (.agg #[.int .i64 (r0.1), .int .i64 (r0.2.1), .int .i64 (r0.2.2.1), .string r0.2.2.2.1, Slc.v r0.2.2.2.2.1, Slc.v r0.2.2.2.2.2]) ∧ R r0 w'
theorem C162.mono {n1 : Int} {w : World} {R R' : (Int × Int × Int × ByteArray × Slc × Slc) → World → Prop} (h : C162 n1 w R) (hr : ∀ r0 w', R r0 w' → R' r0 w') : C162 n1 w R' :=
  Calls.mono h fun _ _ ⟨r0, he, hR⟩ => ⟨r0, he, hr _ _ hR⟩

/-- foliant/value.within[int64] -/
def S191 (n1 : Int) (least2 : Int) (most3 : Int) (w : World) (R : Bool → World → Prop) : Prop :=
  Br (decide (least2 ≤ n1)) (R (decide (n1 ≤ most3)) w) (R false w)
def pl191 : Plan := (.seq (.reg .seq) (.seq (.reg .seq) .leaf))
set_option maxRecDepth 100000 in
theorem T191 (n1 : Int) (least2 : Int) (most3 : Int) (w : World) (R : Bool → World → Prop) (h : S191 n1 least2 most3 w R) : C191 n1 least2 most3 w R := by
  have e : fnT Tryd.prog ⟨FF, MAY, (fun _ _ => False)⟩ pl191 Tryd.f191 [.int .i64 n1, .int .i64 least2, .int .i64 most3] w [(.one .bool)] (fun s w => R s w) = S191 n1 least2 most3 w R := by kernel_rfl
  exact (fn_calls okF okM Tryd.func191 (by kernel_rfl) (by kernel_rfl) (e.mpr h)).mono fun _ _ ⟨s, he, hR⟩ => ⟨s, he, hR⟩

/-- foliant/value.Number -/
def S143 (o1 : Int × Int × Int × ByteArray × Slc × Slc) (w : World) (R : Int → Bool → World → Prop) : Prop :=
  Nw w (.cells #[.int .i64 (o1.1), .int .i64 (o1.2.1), .int .i64 (o1.2.2.1), .string o1.2.2.2.1, Slc.v o1.2.2.2.2.1, Slc.v o1.2.2.2.2.2] 81) fun vw2 =>
  Ld vw2 ((⟨w.heap.size, 0, none⟩ : Addr).add 1) (Value.int .i64) fun (x3 : Int) =>
  Ld vw2 (⟨w.heap.size, 0, none⟩ : Addr) (Value.int .i64) fun (x7 : Int) =>
  Br (x7 == 2) (C191 x3 (-107374) 107374 vw2 fun r8 vw9 =>
      Br (!r8) (R 0 false vw9) (C191 (IntKind.i64.wrap (x3 * 10000)) (-1073741824) 1073741824 vw9 fun r10 vw11 =>
          Br (!r10) (R 0 false vw11) (R (IntKind.i64.wrap (x3 * 10000)) true vw11))) (Br (x7 == 3) (C191 x3 (-1073741824) 1073741824 vw2 fun r12 vw13 =>
        Br (!r12) (R 0 false vw13) (R x3 true vw13)) (R 0 false vw2))
def pl143 : Plan := (.seq (.reg .seq) (.seq (.reg .seq) (.seq (.seq (.reg .seq) (.block (.seq (.reg .seq) (.cond (.seq (.seq (.reg .seq) (.cond (.seq (.reg .seq) .leaf) .leaf)) (.reg .seq)) (.seq (.reg .seq) (.cond .leaf (.seq (.reg .seq) .leaf))))))) (.seq (.seq (.reg .seq) (.cond (.seq (.reg .seq) .leaf) .leaf)) (.seq (.reg .seq) .leaf)))))
set_option maxRecDepth 100000 in
theorem T143 (o1 : Int × Int × Int × ByteArray × Slc × Slc) (w : World) (R : Int → Bool → World → Prop) (h : S143 o1 w R) : C143 (o1.1, o1.2.1, o1.2.2.1, o1.2.2.2.1, o1.2.2.2.2.1, o1.2.2.2.2.2) w R := by
  have e : fnT Tryd.prog ⟨FF, MAY, (fun _ _ => False)⟩ pl143 Tryd.f143 [.agg #[.int .i64 (o1.1), .int .i64 (o1.2.1), .int .i64 (o1.2.2.1), .string o1.2.2.2.1, Slc.v o1.2.2.2.2.1, Slc.v o1.2.2.2.2.2]] w [(.one (.int .i64)), (.one .bool)] (fun s w => R s.1 s.2 w) = S143 o1 w R := by kernel_rfl
  exact (fn_calls okF okM Tryd.func143 (by kernel_rfl) (by kernel_rfl) (e.mpr h)).mono fun _ _ ⟨s, he, hR⟩ => ⟨s.1, s.2, he, hR⟩

def S157J1 (w : World) (R : Int → Bool → World → Prop) (s7 : Unit) (vw8 : World) : Prop :=
  Ld vw8 (⟨w.heap.size, 0, none⟩ : Addr) (Value.int .i64) fun (x9 : Int) =>
  Br (x9 == 2) (Ld vw8 ((⟨w.heap.size, 0, none⟩ : Addr).add 1) (Value.int .i64) fun (x10 : Int) =>
    Br (decide (x10 ≥ (-107374))) (Ld vw8 ((⟨w.heap.size, 0, none⟩ : Addr).add 1) (Value.int .i64) fun (x11 : Int) =>
      Br (decide (x11 ≤ 107374)) (Ld vw8 ((⟨w.heap.size, 0, none⟩ : Addr).add 1) (Value.int .i64) fun (x12 : Int) =>
        R (IntKind.i64.wrap (10000 * x12)) true vw8) (R 0 false vw8)) (R 0 false vw8)) (R 0 false vw8)
/-- foliant/foliantref05.Number -/
def S157 (o1 : Int × Int × Int × ByteArray × Slc × Slc) (w : World) (R : Int → Bool → World → Prop) : Prop :=
  Nw w (.cells #[.int .i64 (o1.1), .int .i64 (o1.2.1), .int .i64 (o1.2.2.1), .string o1.2.2.2.1, Slc.v o1.2.2.2.2.1, Slc.v o1.2.2.2.2.2] 81) fun vw2 =>
  Join (S157J1 w R) fun (vJ13 : Unit → World → Prop) =>
    Ld vw2 (⟨w.heap.size, 0, none⟩ : Addr) (Value.int .i64) fun (x14 : Int) =>
    Br (x14 == 3) (Ld vw2 ((⟨w.heap.size, 0, none⟩ : Addr).add 1) (Value.int .i64) fun (x15 : Int) =>
      Br (decide (x15 ≥ (-1073741824))) (Ld vw2 ((⟨w.heap.size, 0, none⟩ : Addr).add 1) (Value.int .i64) fun (x16 : Int) =>
        Br (decide (x16 ≤ 1073741824)) (Ld vw2 ((⟨w.heap.size, 0, none⟩ : Addr).add 1) (Value.int .i64) fun (x17 : Int) =>
          R x17 true vw2) (vJ13 () vw2)) (vJ13 () vw2)) (vJ13 () vw2)
def pl157 : Plan := (.seq (.reg .seq) (.join [] [1] (.seq (.reg .seq) (.cond (.seq (.reg .seq) .leaf) .leaf)) (.seq (.seq (.reg .seq) (.cond (.seq (.reg .seq) .leaf) .leaf)) (.seq (.reg .seq) .leaf))))
set_option maxRecDepth 100000 in
theorem T157 (o1 : Int × Int × Int × ByteArray × Slc × Slc) (w : World) (R : Int → Bool → World → Prop) (h : S157 o1 w R) : C157 (o1.1, o1.2.1, o1.2.2.1, o1.2.2.2.1, o1.2.2.2.2.1, o1.2.2.2.2.2) w R := by
  have e : fnT Tryd.prog ⟨FF, MAY, (fun _ _ => False)⟩ pl157 Tryd.f157 [.agg #[.int .i64 (o1.1), .int .i64 (o1.2.1), .int .i64 (o1.2.2.1), .string o1.2.2.2.1, Slc.v o1.2.2.2.2.1, Slc.v o1.2.2.2.2.2]] w [(.one (.int .i64)), (.one .bool)] (fun s w => R s.1 s.2 w) = S157 o1 w R := by kernel_rfl
  exact (fn_calls okF okM Tryd.func157 (by kernel_rfl) (by kernel_rfl) (e.mpr h)).mono fun _ _ ⟨s, he, hR⟩ => ⟨s.1, s.2, he, hR⟩

def S95L1 (x16 : Slc) (R : Int → World → Prop) (I19 : (Int × Int) → World → Prop) (s17 : Int × Int) (vw18 : World) : Prop :=
  Br (decide (s17.2 < ((x16.len : Nat) : Int))) (0 ≤ s17.2 ∧ s17.2 < (x16.len : Nat) ∧ Nn x16.p fun a20 =>
    Ld vw18 (a20.add ((s17.2).toNat * 6)) (Value.int .i64) fun (x21 : Int) =>
    Ld vw18 ((a20.add ((s17.2).toNat * 6)).add 1) (Value.int .i64) fun (x22 : Int) =>
    Ld vw18 ((a20.add ((s17.2).toNat * 6)).add 2) (Value.int .i64) fun (x23 : Int) =>
    Ld vw18 ((a20.add ((s17.2).toNat * 6)).add 3) Value.string fun (x24 : ByteArray) =>
    Ld vw18 ((a20.add ((s17.2).toNat * 6)).add 4) Slc.v fun (x25 : Slc) =>
    Ld vw18 ((a20.add ((s17.2).toNat * 6)).add 5) Slc.v fun (x26 : Slc) =>
    Nw vw18 (.cells #[.int .i64 0, .int .i64 0, .int .i64 0, .string ((⟨#[]⟩ : ByteArray)), Slc.v ((⟨none, 0, 0⟩ : Slc)), Slc.v ((⟨none, 0, 0⟩ : Slc))] 81) fun vw27 =>
    St vw27 (⟨vw18.heap.size, 0, none⟩ : Addr) (.int .i64 x21) fun vw28 =>
    St vw28 ((⟨vw18.heap.size, 0, none⟩ : Addr).add 1) (.int .i64 x22) fun vw29 =>
    St vw29 ((⟨vw18.heap.size, 0, none⟩ : Addr).add 2) (.int .i64 x23) fun vw30 =>
    St vw30 ((⟨vw18.heap.size, 0, none⟩ : Addr).add 3) (.string x24) fun vw31 =>
    St vw31 ((⟨vw18.heap.size, 0, none⟩ : Addr).add 4) (Slc.v x25) fun vw32 =>
    St vw32 ((⟨vw18.heap.size, 0, none⟩ : Addr).add 5) (Slc.v x26) fun vw33 =>
    Ld vw33 (⟨vw18.heap.size, 0, none⟩ : Addr) (Value.int .i64) fun (x34 : Int) =>
    Ld vw33 ((⟨vw18.heap.size, 0, none⟩ : Addr).add 1) (Value.int .i64) fun (x35 : Int) =>
    Ld vw33 ((⟨vw18.heap.size, 0, none⟩ : Addr).add 2) (Value.int .i64) fun (x36 : Int) =>
    Ld vw33 ((⟨vw18.heap.size, 0, none⟩ : Addr).add 3) Value.string fun (x37 : ByteArray) =>
    Ld vw33 ((⟨vw18.heap.size, 0, none⟩ : Addr).add 4) Slc.v fun (x38 : Slc) =>
    Ld vw33 ((⟨vw18.heap.size, 0, none⟩ : Addr).add 5) Slc.v fun (x39 : Slc) =>
    C95 (x34, x35, x36, x37, x38, x39) vw33 fun r40 vw41 =>
      I19 (IntKind.i64.wrap (s17.1 + r40), IntKind.i64.wrap (s17.2 + 1)) vw41) (R s17.1 vw18)
def S95L2 (w : World) (x10 : Slc) (R : Int → World → Prop) (I13 : (Int × Int) → World → Prop) (s11 : Int × Int) (vw12 : World) : Prop :=
  Br (decide (s11.2 < ((x10.len : Nat) : Int))) (0 ≤ s11.2 ∧ s11.2 < (x10.len : Nat) ∧ Nn x10.p fun a14 =>
    Ld vw12 (a14.add ((s11.2).toNat * 1)) Value.string fun (x15 : ByteArray) =>
    I13 (IntKind.i64.wrap (s11.1 + (IntKind.i64.wrap (Int.tdiv (((x15).size : Nat) : Int) 50))), IntKind.i64.wrap (s11.2 + 1)) vw12) (Ld vw12 ((⟨w.heap.size, 0, none⟩ : Addr).add 5) Slc.v fun (x16 : Slc) =>
    Lp (σ := Int × Int) (S95L1 x16 R) (s11.1, 0) vw12)
/-- foliant/foliantref05.Size -/
def S95 (o1 : Int × Int × Int × ByteArray × Slc × Slc) (w : World) (R : Int → World → Prop) : Prop :=
  Nw w (.cells #[.int .i64 (o1.1), .int .i64 (o1.2.1), .int .i64 (o1.2.2.1), .string o1.2.2.2.1, Slc.v o1.2.2.2.2.1, Slc.v o1.2.2.2.2.2] 81) fun vw2 =>
  Ld vw2 ((⟨w.heap.size, 0, none⟩ : Addr).add 3) Value.string fun (x3 : ByteArray) =>
  Ld vw2 ((⟨w.heap.size, 0, none⟩ : Addr).add 4) Slc.v fun (x10 : Slc) =>
  Lp (σ := Int × Int) (S95L2 w x10 R) (IntKind.i64.wrap (1 + (IntKind.i64.wrap (Int.tdiv (((x3).size : Nat) : Int) 50))), 0) vw2
def pl95 : Plan := (.seq (.reg .seq) (.seq (.reg .seq) (.seq (.seq (.reg .seq) (.block (.loop [(3, (.one (.int .i64))), (16, (.one (.int .i64)))] [1, 14, 15] (.seq (.reg .seq) (.seq (.cond .leaf .leaf) (.seq (.block (.seq (.reg .seq) (.reg .seq))) (.reg .seq))))))) (.seq (.seq (.reg .seq) (.block (.loop [(3, (.one (.int .i64))), (29, (.one (.int .i64)))] [27, 28] (.seq (.reg .seq) (.seq (.cond .leaf .leaf) (.seq (.block (.seq (.reg .seq) (.reg .seq))) (.reg .seq))))))) (.seq (.reg .seq) .leaf)))))
set_option maxRecDepth 100000 in
theorem T95 (o1 : Int × Int × Int × ByteArray × Slc × Slc) (w : World) (R : Int → World → Prop) (h : S95 o1 w R) : C95 (o1.1, o1.2.1, o1.2.2.1, o1.2.2.2.1, o1.2.2.2.2.1, o1.2.2.2.2.2) w R := by
  have e : fnT Tryd.prog ⟨FF, MAY, (fun _ _ => False)⟩ pl95 Tryd.f95 [.agg #[.int .i64 (o1.1), .int .i64 (o1.2.1), .int .i64 (o1.2.2.1), .string o1.2.2.2.1, Slc.v o1.2.2.2.2.1, Slc.v o1.2.2.2.2.2]] w [(.one (.int .i64))] (fun s w => R s w) = S95 o1 w R := by kernel_rfl
  exact (fn_calls okF okM Tryd.func95 (by kernel_rfl) (by kernel_rfl) (e.mpr h)).mono fun _ _ ⟨s, he, hR⟩ => ⟨s, he, hR⟩

/-- foliant/foliantref05.Int -/
def S162 (n1 : Int) (w : World) (R : (Int × Int × Int × ByteArray × Slc × Slc) → World → Prop) : Prop :=
  Nw w (.cells #[.int .i64 0, .int .i64 0, .int .i64 0, .string ((⟨#[]⟩ : ByteArray)), Slc.v ((⟨none, 0, 0⟩ : Slc)), Slc.v ((⟨none, 0, 0⟩ : Slc))] 81) fun vw2 =>
  St vw2 (⟨w.heap.size, 0, none⟩ : Addr) (.int .i64 2) fun vw3 =>
  St vw3 ((⟨w.heap.size, 0, none⟩ : Addr).add 1) (.int .i64 n1) fun vw4 =>
  St vw4 ((⟨w.heap.size, 0, none⟩ : Addr).add 2) (.int .i64 0) fun vw5 =>
  St vw5 ((⟨w.heap.size, 0, none⟩ : Addr).add 3) (.string ((⟨#[]⟩ : ByteArray))) fun vw6 =>
  St vw6 ((⟨w.heap.size, 0, none⟩ : Addr).add 4) (Slc.v ((⟨none, 0, 0⟩ : Slc))) fun vw7 =>
  St vw7 ((⟨w.heap.size, 0, none⟩ : Addr).add 5) (Slc.v ((⟨none, 0, 0⟩ : Slc))) fun vw8 =>
  Ld vw8 (⟨w.heap.size, 0, none⟩ : Addr) (Value.int .i64) fun (x9 : Int) =>
  Ld vw8 ((⟨w.heap.size, 0, none⟩ : Addr).add 1) (Value.int .i64) fun (x10 : Int) =>
  Ld vw8 ((⟨w.heap.size, 0, none⟩ : Addr).add 2) (Value.int .i64) fun (x11 : Int) =>
  Ld vw8 ((⟨w.heap.size, 0, none⟩ : Addr).add 3) Value.string fun (x12 : ByteArray) =>
  Ld vw8 ((⟨w.heap.size, 0, none⟩ : Addr).add 4) Slc.v fun (x13 : Slc) =>
  Ld vw8 ((⟨w.heap.size, 0, none⟩ : Addr).add 5) Slc.v fun (x14 : Slc) =>
  R (x9, x10, x11, x12, x13, x14) vw8
def pl162 : Plan := (.seq (.reg .seq) (.seq (.reg .seq) .leaf))
set_option maxRecDepth 100000 in
theorem T162 (n1 : Int) (w : World) (R : (Int × Int × Int × ByteArray × Slc × Slc) → World → Prop) (h : S162 n1 w R) : C162 n1 w R := by
  have e : fnT Tryd.prog ⟨FF, MAY, (fun _ _ => False)⟩ pl162 Tryd.f162 [.int .i64 n1] w [(.agg [(.int .i64), (.int .i64), (.int .i64), .str, .slc, .slc])] (fun s w => R s w) = S162 n1 w R := by kernel_rfl
  exact (fn_calls okF okM Tryd.func162 (by kernel_rfl) (by kernel_rfl) (e.mpr h)).mono fun _ _ ⟨s, he, hR⟩ => ⟨s, he, hR⟩

end Go.Proofs.YtjbeembbnkmpeaaDoor
