/- The formulas of 5 functions of the program, written by program (gen.py); the kernel checks each. No condition. -/
import Derived.Test.YtcblpehnkogfdaaGreatDoorFn
import Derived.Test.YtcblpehnkogfdaaGreatDoorFnFix
import Derived.Test.YtcblpehnkogfdaaGreatDoorFnMat
namespace Go.Proofs.YtcblpehnkogfdaaGreatDoor
open Sh
set_option linter.unusedVariables false
set_option maxRecDepth 100000

def C53 (n1 : Int) (w : World) (R : (Int × Int × Int × ByteArray × Slc × Slc) → World → Prop) : Prop :=
  Calls Tryz.prog 53 #[.int .i64 n1] w fun e w' => ∃ r0 : Int × Int × Int × ByteArray × Slc × Slc, e = .returned (.agg #[.int .i64 (r0.1), .int .i64 (r0.2.1), .int .i64 (r0.2.2.1), .string r0.2.2.2.1, Slc.v r0.2.2.2.2.1, Slc.v r0.2.2.2.2.2]) ∧ R r0 w'
theorem C53.mono {n1 : Int} {w : World} {R R' : (Int × Int × Int × ByteArray × Slc × Slc) → World → Prop} (h : C53 n1 w R) (hr : ∀ r0 w', R r0 w' → R' r0 w') : C53 n1 w R' :=
  Calls.mono h fun _ _ ⟨r0, he, hR⟩ => ⟨r0, he, hr _ _ hR⟩
def C21 (m1 : Int × Int × Int × Int × Int × Int) (w : World) (R : (Int × Int × Int × ByteArray × Slc × Slc) → World → Prop) : Prop :=
  Calls Tryz.prog 21 #[.agg #[.int .i64 (m1.1), .int .i64 (m1.2.1), .int .i64 (m1.2.2.1), .int .i64 (m1.2.2.2.1), .int .i64 (m1.2.2.2.2.1), .int .i64 (m1.2.2.2.2.2)]] w fun e w' => ∃ r0 : Int × Int × Int × ByteArray × Slc × Slc, e = .returned (.agg #[.int .i64 (r0.1), .int .i64 (r0.2.1), .int .i64 (r0.2.2.1), .string r0.2.2.2.1, Slc.v r0.2.2.2.2.1, Slc.v r0.2.2.2.2.2]) ∧ R r0 w'
theorem C21.mono {m1 : Int × Int × Int × Int × Int × Int} {w : World} {R R' : (Int × Int × Int × ByteArray × Slc × Slc) → World → Prop} (h : C21 m1 w R) (hr : ∀ r0 w', R r0 w' → R' r0 w') : C21 m1 w R' :=
  Calls.mono h fun _ _ ⟨r0, he, hR⟩ => ⟨r0, he, hr _ _ hR⟩
def C84 (o1 : Int × Int × Int × ByteArray × Slc × Slc) (w : World) (R : Int → Bool → World → Prop) : Prop :=
  Calls Tryz.prog 84 #[.agg #[.int .i64 (o1.1), .int .i64 (o1.2.1), .int .i64 (o1.2.2.1), .string o1.2.2.2.1, Slc.v o1.2.2.2.2.1, Slc.v o1.2.2.2.2.2]] w fun e w' => ∃ r0 : Int, ∃ r1 : Bool, e = .returned (.tuple #[.int .i64 r0, .bool r1]) ∧ R r0 r1 w'
theorem C84.mono {o1 : Int × Int × Int × ByteArray × Slc × Slc} {w : World} {R R' : Int → Bool → World → Prop} (h : C84 o1 w R) (hr : ∀ r0 r1 w', R r0 r1 w' → R' r0 r1 w') : C84 o1 w R' :=
  Calls.mono h fun _ _ ⟨r0, r1, he, hR⟩ => ⟨r0, r1, he, hr _ _ _ hR⟩
def C131 (n1 : Int) (least2 : Int) (most3 : Int) (w : World) (R : Bool → World → Prop) : Prop :=
  Calls Tryz.prog 131 #[.int .i64 n1, .int .i64 least2, .int .i64 most3] w fun e w' => ∃ r0 : Bool, e = .returned (.bool r0) ∧ R r0 w'
theorem C131.mono {n1 : Int} {least2 : Int} {most3 : Int} {w : World} {R R' : Bool → World → Prop} (h : C131 n1 least2 most3 w R) (hr : ∀ r0 w', R r0 w' → R' r0 w') : C131 n1 least2 most3 w R' :=
  Calls.mono h fun _ _ ⟨r0, he, hR⟩ => ⟨r0, he, hr _ _ hR⟩
def C114 (o1 : Int × Int × Int × ByteArray × Slc × Slc) (w : World) (R : Int → Bool → World → Prop) : Prop :=
  Calls Tryz.prog 114 #[.agg #[.int .i64 (o1.1), .int .i64 (o1.2.1), .int .i64 (o1.2.2.1), .string o1.2.2.2.1, Slc.v o1.2.2.2.2.1, Slc.v o1.2.2.2.2.2]] w fun e w' => ∃ r0 : Int, ∃ r1 : Bool, e = .returned (.tuple #[.int .i64 r0, .bool r1]) ∧ R r0 r1 w'
theorem C114.mono {o1 : Int × Int × Int × ByteArray × Slc × Slc} {w : World} {R R' : Int → Bool → World → Prop} (h : C114 o1 w R) (hr : ∀ r0 r1 w', R r0 r1 w' → R' r0 r1 w') : C114 o1 w R' :=
  Calls.mono h fun _ _ ⟨r0, r1, he, hR⟩ => ⟨r0, r1, he, hr _ _ _ hR⟩

/-- foliant/foliantref42.Num -/
def S53 (n1 : Int) (w : World) (R : (Int × Int × Int × ByteArray × Slc × Slc) → World → Prop) : Prop :=
  Nw w (.cells #[.int .i64 0, .int .i64 0, .int .i64 0, .string ((⟨#[]⟩ : ByteArray)), Slc.v ((⟨none, 0, 0⟩ : Slc)), Slc.v ((⟨none, 0, 0⟩ : Slc))] 61) fun vw2 =>
  Br ((Int.tmod n1 10000) == 0) (St vw2 (⟨w.heap.size, 0, none⟩ : Addr) (.int .i64 2) fun vw3 =>
    St vw3 ((⟨w.heap.size, 0, none⟩ : Addr).add 1) (.int .i64 (IntKind.i64.wrap (Int.tdiv n1 10000))) fun vw4 =>
    St vw4 ((⟨w.heap.size, 0, none⟩ : Addr).add 2) (.int .i64 0) fun vw5 =>
    St vw5 ((⟨w.heap.size, 0, none⟩ : Addr).add 3) (.string ((⟨#[]⟩ : ByteArray))) fun vw6 =>
    St vw6 ((⟨w.heap.size, 0, none⟩ : Addr).add 4) (Slc.v ((⟨none, 0, 0⟩ : Slc))) fun vw7 =>
    St vw7 ((⟨w.heap.size, 0, none⟩ : Addr).add 5) (Slc.v ((⟨none, 0, 0⟩ : Slc))) fun vw8 =>
    Ld vw8 (⟨w.heap.size, 0, none⟩ : Addr) (Value.int .i64) fun (x9 : Int) =>
    Ld vw8 ((⟨w.heap.size, 0, none⟩ : Addr).add 1) (Value.int .i64) fun (x10 : Int) =>
    Ld vw8 ((⟨w.heap.size, 0, none⟩ : Addr).add 2) (Value.int .i64) fun (x11 : Int) =>
    Ld vw8 ((⟨w.heap.size, 0, none⟩ : Addr).add 3) Value.string fun (x12 : ByteArray) =>
    Ld vw8 ((⟨w.heap.size, 0, none⟩ : Addr).add 4) Slc.v fun (x13 : Slc) =>
    Ld vw8 ((⟨w.heap.size, 0, none⟩ : Addr).add 5) Slc.v fun (x14 : Slc) =>
    R (x9, x10, x11, x12, x13, x14) vw8) (St vw2 (⟨w.heap.size, 0, none⟩ : Addr) (.int .i64 3) fun vw15 =>
    St vw15 ((⟨w.heap.size, 0, none⟩ : Addr).add 1) (.int .i64 n1) fun vw16 =>
    St vw16 ((⟨w.heap.size, 0, none⟩ : Addr).add 2) (.int .i64 0) fun vw17 =>
    St vw17 ((⟨w.heap.size, 0, none⟩ : Addr).add 3) (.string ((⟨#[]⟩ : ByteArray))) fun vw18 =>
    St vw18 ((⟨w.heap.size, 0, none⟩ : Addr).add 4) (Slc.v ((⟨none, 0, 0⟩ : Slc))) fun vw19 =>
    St vw19 ((⟨w.heap.size, 0, none⟩ : Addr).add 5) (Slc.v ((⟨none, 0, 0⟩ : Slc))) fun vw20 =>
    Ld vw20 (⟨w.heap.size, 0, none⟩ : Addr) (Value.int .i64) fun (x21 : Int) =>
    Ld vw20 ((⟨w.heap.size, 0, none⟩ : Addr).add 1) (Value.int .i64) fun (x22 : Int) =>
    Ld vw20 ((⟨w.heap.size, 0, none⟩ : Addr).add 2) (Value.int .i64) fun (x23 : Int) =>
    Ld vw20 ((⟨w.heap.size, 0, none⟩ : Addr).add 3) Value.string fun (x24 : ByteArray) =>
    Ld vw20 ((⟨w.heap.size, 0, none⟩ : Addr).add 4) Slc.v fun (x25 : Slc) =>
    Ld vw20 ((⟨w.heap.size, 0, none⟩ : Addr).add 5) Slc.v fun (x26 : Slc) =>
    R (x21, x22, x23, x24, x25, x26) vw20)
def pl53 : Plan := (.seq (.reg .seq) (.seq (.seq (.reg .seq) (.cond (.seq (.reg .seq) .leaf) .leaf)) (.seq (.reg .seq) .leaf)))
set_option maxRecDepth 100000 in
theorem T53 (n1 : Int) (w : World) (R : (Int × Int × Int × ByteArray × Slc × Slc) → World → Prop) (h : S53 n1 w R) : C53 n1 w R := by
  have e : fnT Tryz.prog ⟨FF, MAY, (fun _ _ => False)⟩ pl53 Tryz.f53 [.int .i64 n1] w [(.agg [(.int .i64), (.int .i64), (.int .i64), .str, .slc, .slc])] (fun s w => R s w) = S53 n1 w R := by kernel_rfl
  exact (fn_calls okF okM Tryz.func53 (by kernel_rfl) (by kernel_rfl) (e.mpr h)).mono fun _ _ ⟨s, he, hR⟩ => ⟨s, he, hR⟩

/-- foliant/foliantref42.Object -/
def S21 (m1 : Int × Int × Int × Int × Int × Int) (w : World) (R : (Int × Int × Int × ByteArray × Slc × Slc) → World → Prop) : Prop :=
  Nw w (.cells #[.int .i64 (m1.1), .int .i64 (m1.2.1), .int .i64 (m1.2.2.1), .int .i64 (m1.2.2.2.1), .int .i64 (m1.2.2.2.2.1), .int .i64 (m1.2.2.2.2.2)] 24) fun vw2 =>
  Nw vw2 (.cells #[.int .i64 0, .int .i64 0, .int .i64 0, .string ((⟨#[]⟩ : ByteArray)), Slc.v ((⟨none, 0, 0⟩ : Slc)), Slc.v ((⟨none, 0, 0⟩ : Slc))] 61) fun vw3 =>
  ∃ vS4 : World → Prop, vS4 vw3.drew ∧ LdS vS4 (⟨w.heap.size, 0, none⟩ : Addr) (Value.int .i64) fun (x5 : Int) =>
  LdS vS4 ((⟨w.heap.size, 0, none⟩ : Addr).add 1) (Value.int .i64) fun (x6 : Int) =>
  LdS vS4 ((⟨w.heap.size, 0, none⟩ : Addr).add 2) (Value.int .i64) fun (x7 : Int) =>
  LdS vS4 ((⟨w.heap.size, 0, none⟩ : Addr).add 3) (Value.int .i64) fun (x8 : Int) =>
  LdS vS4 ((⟨w.heap.size, 0, none⟩ : Addr).add 4) (Value.int .i64) fun (x9 : Int) =>
  LdS vS4 ((⟨w.heap.size, 0, none⟩ : Addr).add 5) (Value.int .i64) fun (x10 : Int) =>
  C53 x5 vw3.drew fun r11 vw12 =>
    vS4 vw12 ∧ C53 x6 vw12 fun r13 vw14 =>
      vS4 vw14 ∧ C53 x7 vw14 fun r15 vw16 =>
        vS4 vw16 ∧ C53 x8 vw16 fun r17 vw18 =>
          vS4 vw18 ∧ C53 x9 vw18 fun r19 vw20 =>
            vS4 vw20 ∧ C53 x10 vw20 fun r21 vw22 =>
              Nw vw22 (.cells #[.int .i64 (r11.1), .int .i64 (r11.2.1), .int .i64 (r11.2.2.1), .string r11.2.2.2.1, Slc.v r11.2.2.2.2.1, Slc.v r11.2.2.2.2.2, .int .i64 (r13.1), .int .i64 (r13.2.1), .int .i64 (r13.2.2.1), .string r13.2.2.2.1, Slc.v r13.2.2.2.2.1, Slc.v r13.2.2.2.2.2, .int .i64 (r15.1), .int .i64 (r15.2.1), .int .i64 (r15.2.2.1), .string r15.2.2.2.1, Slc.v r15.2.2.2.2.1, Slc.v r15.2.2.2.2.2, .int .i64 (r17.1), .int .i64 (r17.2.1), .int .i64 (r17.2.2.1), .string r17.2.2.2.1, Slc.v r17.2.2.2.2.1, Slc.v r17.2.2.2.2.2, .int .i64 (r19.1), .int .i64 (r19.2.1), .int .i64 (r19.2.2.1), .string r19.2.2.2.1, Slc.v r19.2.2.2.2.1, Slc.v r19.2.2.2.2.2, .int .i64 (r21.1), .int .i64 (r21.2.1), .int .i64 (r21.2.2.1), .string r21.2.2.2.1, Slc.v r21.2.2.2.2.1, Slc.v r21.2.2.2.2.2] 61) fun vw23 =>
              St vw23 (⟨vw2.heap.size, 0, none⟩ : Addr) (.int .i64 6) fun vw24 =>
              St vw24 ((⟨vw2.heap.size, 0, none⟩ : Addr).add 1) (.int .i64 0) fun vw25 =>
              St vw25 ((⟨vw2.heap.size, 0, none⟩ : Addr).add 2) (.int .i64 0) fun vw26 =>
              St vw26 ((⟨vw2.heap.size, 0, none⟩ : Addr).add 3) (.string ((⟨#[]⟩ : ByteArray))) fun vw27 =>
              St vw27 ((⟨vw2.heap.size, 0, none⟩ : Addr).add 4) (Slc.v ((⟨none, 0, 0⟩ : Slc))) fun vw28 =>
              St vw28 ((⟨vw2.heap.size, 0, none⟩ : Addr).add 5) (Slc.v ((⟨some ⟨vw22.heap.size, 0, none⟩, 6, 6⟩ : Slc))) fun vw29 =>
              Ld vw29 (⟨vw2.heap.size, 0, none⟩ : Addr) (Value.int .i64) fun (x30 : Int) =>
              Ld vw29 ((⟨vw2.heap.size, 0, none⟩ : Addr).add 1) (Value.int .i64) fun (x31 : Int) =>
              Ld vw29 ((⟨vw2.heap.size, 0, none⟩ : Addr).add 2) (Value.int .i64) fun (x32 : Int) =>
              Ld vw29 ((⟨vw2.heap.size, 0, none⟩ : Addr).add 3) Value.string fun (x33 : ByteArray) =>
              Ld vw29 ((⟨vw2.heap.size, 0, none⟩ : Addr).add 4) Slc.v fun (x34 : Slc) =>
              Ld vw29 ((⟨vw2.heap.size, 0, none⟩ : Addr).add 5) Slc.v fun (x35 : Slc) =>
              R (x30, x31, x32, x33, x34, x35) vw29
def pl21 : Plan := (.seq (.reg .seq) (.seq (.reg (.held [17] (.take 0 (.take 1 (.take 3 (.take 4 (.take 6 (.take 7 (.take 9 (.take 10 (.take 12 (.take 13 (.take 15 (.take 16 (.eff 2 none (.eff 5 none (.eff 8 none (.eff 11 none (.eff 14 none (.eff 17 (some [18]) (.eff 18 (some [19]) (.eff 19 (some [20]) (.eff 20 (some []) .done))))))))))))))))))))))) .leaf))
set_option maxRecDepth 100000 in
theorem T21 (m1 : Int × Int × Int × Int × Int × Int) (w : World) (R : (Int × Int × Int × ByteArray × Slc × Slc) → World → Prop) (h : S21 m1 w R) : C21 (m1.1, m1.2.1, m1.2.2.1, m1.2.2.2.1, m1.2.2.2.2.1, m1.2.2.2.2.2) w R := by
  have e : fnT Tryz.prog ⟨FF, MAY, (fun _ _ => False)⟩ pl21 Tryz.f21 [.agg #[.int .i64 (m1.1), .int .i64 (m1.2.1), .int .i64 (m1.2.2.1), .int .i64 (m1.2.2.2.1), .int .i64 (m1.2.2.2.2.1), .int .i64 (m1.2.2.2.2.2)]] w [(.agg [(.int .i64), (.int .i64), (.int .i64), .str, .slc, .slc])] (fun s w => R s w) = S21 m1 w R := by kernel_rfl
  exact (fn_calls okF okM Tryz.func21 (by kernel_rfl) (by kernel_rfl) (e.mpr h)).mono fun _ _ ⟨s, he, hR⟩ => ⟨s, he, hR⟩

def S84J1 (w : World) (R : Int → Bool → World → Prop) (s7 : Unit) (vw8 : World) : Prop :=
  Ld vw8 (⟨w.heap.size, 0, none⟩ : Addr) (Value.int .i64) fun (x9 : Int) =>
  Br (x9 == 2) (Ld vw8 ((⟨w.heap.size, 0, none⟩ : Addr).add 1) (Value.int .i64) fun (x10 : Int) =>
    Br (decide (x10 ≥ (-107374))) (Ld vw8 ((⟨w.heap.size, 0, none⟩ : Addr).add 1) (Value.int .i64) fun (x11 : Int) =>
      Br (decide (x11 ≤ 107374)) (Ld vw8 ((⟨w.heap.size, 0, none⟩ : Addr).add 1) (Value.int .i64) fun (x12 : Int) =>
        R (IntKind.i64.wrap (10000 * x12)) true vw8) (R 0 false vw8)) (R 0 false vw8)) (R 0 false vw8)
/-- foliant/foliantref05.Number -/
def S84 (o1 : Int × Int × Int × ByteArray × Slc × Slc) (w : World) (R : Int → Bool → World → Prop) : Prop :=
  Nw w (.cells #[.int .i64 (o1.1), .int .i64 (o1.2.1), .int .i64 (o1.2.2.1), .string o1.2.2.2.1, Slc.v o1.2.2.2.2.1, Slc.v o1.2.2.2.2.2] 61) fun vw2 =>
  Join (S84J1 w R) fun (vJ13 : Unit → World → Prop) =>
    Ld vw2 (⟨w.heap.size, 0, none⟩ : Addr) (Value.int .i64) fun (x14 : Int) =>
    Br (x14 == 3) (Ld vw2 ((⟨w.heap.size, 0, none⟩ : Addr).add 1) (Value.int .i64) fun (x15 : Int) =>
      Br (decide (x15 ≥ (-1073741824))) (Ld vw2 ((⟨w.heap.size, 0, none⟩ : Addr).add 1) (Value.int .i64) fun (x16 : Int) =>
        Br (decide (x16 ≤ 1073741824)) (Ld vw2 ((⟨w.heap.size, 0, none⟩ : Addr).add 1) (Value.int .i64) fun (x17 : Int) =>
          R x17 true vw2) (vJ13 () vw2)) (vJ13 () vw2)) (vJ13 () vw2)
def pl84 : Plan := (.seq (.reg .seq) (.join [] [1] (.seq (.reg .seq) (.cond (.seq (.reg .seq) .leaf) .leaf)) (.seq (.seq (.reg .seq) (.cond (.seq (.reg .seq) .leaf) .leaf)) (.seq (.reg .seq) .leaf))))
set_option maxRecDepth 100000 in
theorem T84 (o1 : Int × Int × Int × ByteArray × Slc × Slc) (w : World) (R : Int → Bool → World → Prop) (h : S84 o1 w R) : C84 (o1.1, o1.2.1, o1.2.2.1, o1.2.2.2.1, o1.2.2.2.2.1, o1.2.2.2.2.2) w R := by
  have e : fnT Tryz.prog ⟨FF, MAY, (fun _ _ => False)⟩ pl84 Tryz.f84 [.agg #[.int .i64 (o1.1), .int .i64 (o1.2.1), .int .i64 (o1.2.2.1), .string o1.2.2.2.1, Slc.v o1.2.2.2.2.1, Slc.v o1.2.2.2.2.2]] w [(.one (.int .i64)), (.one .bool)] (fun s w => R s.1 s.2 w) = S84 o1 w R := by kernel_rfl
  exact (fn_calls okF okM Tryz.func84 (by kernel_rfl) (by kernel_rfl) (e.mpr h)).mono fun _ _ ⟨s, he, hR⟩ => ⟨s.1, s.2, he, hR⟩

/-- foliant/value.within[int64] -/
def S131 (n1 : Int) (least2 : Int) (most3 : Int) (w : World) (R : Bool → World → Prop) : Prop :=
  Br (decide (least2 ≤ n1)) (R (decide (n1 ≤ most3)) w) (R false w)
def pl131 : Plan := (.seq (.reg .seq) (.seq (.reg .seq) .leaf))
set_option maxRecDepth 100000 in
theorem T131 (n1 : Int) (least2 : Int) (most3 : Int) (w : World) (R : Bool → World → Prop) (h : S131 n1 least2 most3 w R) : C131 n1 least2 most3 w R := by
  have e : fnT Tryz.prog ⟨FF, MAY, (fun _ _ => False)⟩ pl131 Tryz.f131 [.int .i64 n1, .int .i64 least2, .int .i64 most3] w [(.one .bool)] (fun s w => R s w) = S131 n1 least2 most3 w R := by kernel_rfl
  exact (fn_calls okF okM Tryz.func131 (by kernel_rfl) (by kernel_rfl) (e.mpr h)).mono fun _ _ ⟨s, he, hR⟩ => ⟨s, he, hR⟩

/-- foliant/value.Number -/
def S114 (o1 : Int × Int × Int × ByteArray × Slc × Slc) (w : World) (R : Int → Bool → World → Prop) : Prop :=
  Nw w (.cells #[.int .i64 (o1.1), .int .i64 (o1.2.1), .int .i64 (o1.2.2.1), .string o1.2.2.2.1, Slc.v o1.2.2.2.2.1, Slc.v o1.2.2.2.2.2] 61) fun vw2 =>
  Ld vw2 ((⟨w.heap.size, 0, none⟩ : Addr).add 1) (Value.int .i64) fun (x3 : Int) =>
  Ld vw2 (⟨w.heap.size, 0, none⟩ : Addr) (Value.int .i64) fun (x7 : Int) =>
  Br (x7 == 2) (C131 x3 (-107374) 107374 vw2 fun r8 vw9 =>
      Br (!r8) (R 0 false vw9) (C131 (IntKind.i64.wrap (x3 * 10000)) (-1073741824) 1073741824 vw9 fun r10 vw11 =>
          Br (!r10) (R 0 false vw11) (R (IntKind.i64.wrap (x3 * 10000)) true vw11))) (Br (x7 == 3) (C131 x3 (-1073741824) 1073741824 vw2 fun r12 vw13 =>
        Br (!r12) (R 0 false vw13) (R x3 true vw13)) (R 0 false vw2))
def pl114 : Plan := (.seq (.reg .seq) (.seq (.reg .seq) (.seq (.seq (.reg .seq) (.block (.seq (.reg .seq) (.cond (.seq (.seq (.reg .seq) (.cond (.seq (.reg .seq) .leaf) .leaf)) (.reg .seq)) (.seq (.reg .seq) (.cond .leaf (.seq (.reg .seq) .leaf))))))) (.seq (.seq (.reg .seq) (.cond (.seq (.reg .seq) .leaf) .leaf)) (.seq (.reg .seq) .leaf)))))
set_option maxRecDepth 100000 in
theorem T114 (o1 : Int × Int × Int × ByteArray × Slc × Slc) (w : World) (R : Int → Bool → World → Prop) (h : S114 o1 w R) : C114 (o1.1, o1.2.1, o1.2.2.1, o1.2.2.2.1, o1.2.2.2.2.1, o1.2.2.2.2.2) w R := by
  have e : fnT Tryz.prog ⟨FF, MAY, (fun _ _ => False)⟩ pl114 Tryz.f114 [.agg #[.int .i64 (o1.1), .int .i64 (o1.2.1), .int .i64 (o1.2.2.1), .string o1.2.2.2.1, Slc.v o1.2.2.2.2.1, Slc.v o1.2.2.2.2.2]] w [(.one (.int .i64)), (.one .bool)] (fun s w => R s.1 s.2 w) = S114 o1 w R := by kernel_rfl
  exact (fn_calls okF okM Tryz.func114 (by kernel_rfl) (by kernel_rfl) (e.mpr h)).mono fun _ _ ⟨s, he, hR⟩ => ⟨s.1, s.2, he, hR⟩

end Go.Proofs.YtcblpehnkogfdaaGreatDoor
