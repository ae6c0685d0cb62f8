/- The formulas of 11 functions of the program, written by program (gen.py); the kernel checks each. No condition. -/
import Derived.Test.YtodhdkbhmkinjaaDoorFn
import Derived.Test.YtodhdkbhmkinjaaDoorFnSs
import Derived.Test.YtodhdkbhmkinjaaDoorFnOl
import Derived.Test.YtodhdkbhmkinjaaDoorFnOk
import Derived.Test.YtodhdkbhmkinjaaDoorFnOr
import Derived.Test.YtodhdkbhmkinjaaDoorFnOr4
namespace Go.Proofs.YtodhdkbhmkinjaaDoor
open Sh
set_option linter.unusedVariables false
set_option maxRecDepth 100000

def C27 (n1 : Int) (w : World) (R : Int → World → Prop) : Prop :=
  Calls Tryd.prog 27 #[.int .i64 n1] w fun e w' => ∃ r0 : Int, e = .returned (.int .i64 r0) ∧ R r0 w'
theorem C27.mono {n1 : Int} {w : World} {R R' : Int → World → Prop} (h : C27 n1 w R) (hr : ∀ r0 w', R r0 w' → R' r0 w') : C27 n1 w R' :=
  Calls.mono h fun _ _ ⟨r0, he, hR⟩ => ⟨r0, he, hr _ _ hR⟩
def C28 (g1 : TyA31) (w : World) (R : Int → World → Prop) : Prop :=
  Calls Tryd.prog 28 #[.agg (Sig.cells LiA31 g1).toArray] w fun e w' => ∃ r0 : Int, e = .returned (.int .i64 r0) ∧ R r0 w'
theorem C28.mono {g1 : TyA31} {w : World} {R R' : Int → World → Prop} (h : C28 g1 w R) (hr : ∀ r0 w', R r0 w' → R' r0 w') : C28 g1 w R' :=
  Calls.mono h fun _ _ ⟨r0, he, hR⟩ => ⟨r0, he, hr _ _ hR⟩
def C12 (g1 : TyA31) (w : World) (R : (Int × Int × Int × Int) → World → Prop) : Prop :=
  Calls Tryd.prog 12 #[.agg (Sig.cells LiA31 g1).toArray] w fun e w' => ∃ r0 : Int × Int × Int × Int, e = .returned (.agg #[.int .i64 (r0.1), .int .i64 (r0.2.1), .int .i64 (r0.2.2.1), .int .i64 (r0.2.2.2)]) ∧ R r0 w'
theorem C12.mono {g1 : TyA31} {w : World} {R R' : (Int × Int × Int × Int) → World → Prop} (h : C12 g1 w R) (hr : ∀ r0 w', R r0 w' → R' r0 w') : C12 g1 w R' :=
  Calls.mono h fun _ _ ⟨r0, he, hR⟩ => ⟨r0, he, hr _ _ hR⟩
def C49 (s1 : ByteArray) (w : World) (R : Bool → World → Prop) : Prop :=
  Calls Tryd.prog 49 #[.string s1] w fun e w' => ∃ r0 : Bool, e = .returned (.bool r0) ∧ R r0 w'
theorem C49.mono {s1 : ByteArray} {w : World} {R R' : Bool → World → Prop} (h : C49 s1 w R) (hr : ∀ r0 w', R r0 w' → R' r0 w') : C49 s1 w R' :=
  Calls.mono h fun _ _ ⟨r0, he, hR⟩ => ⟨r0, he, hr _ _ hR⟩
def C50 (a1 : Int × Int × Int × Int) (b2 : Int × Int × Int × Int) (w : World) (R : (Int × Int × Int × Int) → World → Prop) : Prop :=
  Calls Tryd.prog 50 #[.agg #[.int .i64 (a1.1), .int .i64 (a1.2.1), .int .i64 (a1.2.2.1), .int .i64 (a1.2.2.2)], .agg #[.int .i64 (b2.1), .int .i64 (b2.2.1), .int .i64 (b2.2.2.1), .int .i64 (b2.2.2.2)]] w fun e w' => ∃ r0 : Int × Int × Int × Int, e = .returned (.agg #[.int .i64 (r0.1), .int .i64 (r0.2.1), .int .i64 (r0.2.2.1), .int .i64 (r0.2.2.2)]) ∧ R r0 w'
theorem C50.mono {a1 : Int × Int × Int × Int} {b2 : Int × Int × Int × Int} {w : World} {R R' : (Int × Int × Int × Int) → World → Prop} (h : C50 a1 b2 w R) (hr : ∀ r0 w', R r0 w' → R' r0 w') : C50 a1 b2 w R' :=
  Calls.mono h fun _ _ ⟨r0, he, hR⟩ => ⟨r0, he, hr _ _ hR⟩
def C26 (l1 : Slc) (w : World) (R : Slc → World → Prop) : Prop :=
  Calls Tryd.prog 26 #[Slc.v l1] w fun e w' => ∃ r0 : Slc, e = .returned (Slc.v r0) ∧ R r0 w'
theorem C26.mono {l1 : Slc} {w : World} {R R' : Slc → World → Prop} (h : C26 l1 w R) (hr : ∀ r0 w', R r0 w' → R' r0 w') : C26 l1 w R' :=
  Calls.mono h fun _ _ ⟨r0, he, hR⟩ => ⟨r0, he, hr _ _ hR⟩
def C30 (l1 : Slc) (row2 : Slc) (w : World) (R : Slc → World → Prop) : Prop :=
  Calls Tryd.prog 30 #[Slc.v l1, Slc.v row2] w fun e w' => ∃ r0 : Slc, e = .returned (Slc.v r0) ∧ R r0 w'
theorem C30.mono {l1 : Slc} {row2 : Slc} {w : World} {R R' : Slc → World → Prop} (h : C30 l1 row2 w R) (hr : ∀ r0 w', R r0 w' → R' r0 w') : C30 l1 row2 w R' :=
  Calls.mono h fun _ _ ⟨r0, he, hR⟩ => ⟨r0, he, hr _ _ hR⟩
def C29 (l1 : Slc) (row2 : Slc) (w : World) (R : (TyA39) → World → Prop) : Prop :=
  Calls Tryd.prog 29 #[Slc.v l1, Slc.v row2] w fun e w' => ∃ r0 : TyA39, e = .returned (.agg (Sig.cells LiA39 r0).toArray) ∧ R r0 w'
theorem C29.mono {l1 : Slc} {row2 : Slc} {w : World} {R R' : (TyA39) → World → Prop} (h : C29 l1 row2 w R) (hr : ∀ r0 w', R r0 w' → R' r0 w') : C29 l1 row2 w R' :=
  Calls.mono h fun _ _ ⟨r0, he, hR⟩ => ⟨r0, he, hr _ _ hR⟩
def C10 (l1 : Slc) (w : World) (R : Slc → World → Prop) : Prop :=
  Calls Tryd.prog 10 #[Slc.v l1] w fun e w' => ∃ r0 : Slc, e = .returned (Slc.v r0) ∧ R r0 w'
theorem C10.mono {l1 : Slc} {w : World} {R R' : Slc → World → Prop} (h : C10 l1 w R) (hr : ∀ r0 w', R r0 w' → R' r0 w') : C10 l1 w R' :=
  Calls.mono h fun _ _ ⟨r0, he, hR⟩ => ⟨r0, he, hr _ _ hR⟩
def C16 (l1 : Slc) (w : World) (R : Slc → World → Prop) : Prop :=
  Calls Tryd.prog 16 #[Slc.v l1] w fun e w' => ∃ r0 : Slc, e = .returned (Slc.v r0) ∧ R r0 w'
theorem C16.mono {l1 : Slc} {w : World} {R R' : Slc → World → Prop} (h : C16 l1 w R) (hr : ∀ r0 w', R r0 w' → R' r0 w') : C16 l1 w R' :=
  Calls.mono h fun _ _ ⟨r0, he, hR⟩ => ⟨r0, he, hr _ _ hR⟩
def C3 (l1 : Slc) (w : World) (R : Bool → World → Prop) : Prop :=
  Calls Tryd.prog 3 #[Slc.v l1] w fun e w' => ∃ r0 : Bool, e = .returned (.bool r0) ∧ R r0 w'
theorem C3.mono {l1 : Slc} {w : World} {R R' : Bool → World → Prop} (h : C3 l1 w R) (hr : ∀ r0 w', R r0 w' → R' r0 w') : C3 l1 w R' :=
  Calls.mono h fun _ _ ⟨r0, he, hR⟩ => ⟨r0, he, hr _ _ hR⟩

/-- foliant/foliantref50.held -/
def S27 (n1 : Int) (w : World) (R : Int → World → Prop) : Prop :=
  Lt ((if (if 1073741824 < n1 then 1073741824 else n1) > (-1073741824) then (if 1073741824 < n1 then 1073741824 else n1) else (-1073741824))) fun (x2 : Int) =>
  R x2 w
def pl27 : Plan := (.seq (.reg .seq) (.seq (.reg .seq) .leaf))
set_option maxRecDepth 100000 in
theorem T27 (n1 : Int) (w : World) (R : Int → World → Prop) (h : S27 n1 w R) : C27 n1 w R := by
  have e : fnT Tryd.prog ⟨FF, MAY, (fun _ _ => False)⟩ pl27 Tryd.f27 [.int .i64 n1] w [(.one (.int .i64))] (fun s w => R s w) = S27 n1 w R := by kernel_rfl
  exact (fn_calls okF okM Tryd.func27 (by kernel_rfl) (by kernel_rfl) (e.mpr h)).mono fun _ _ ⟨s, he, hR⟩ => ⟨s, he, hR⟩

/-- foliant/foliantref50.high -/
def S28 (g1 : TyA31) (w : World) (R : Int → World → Prop) : Prop :=
  Nw w (.cells (Sig.cells LiA31 g1).toArray 32) fun vw2 =>
  Ld vw2 ((⟨w.heap.size, 0, none⟩ : Addr).add 6) (Value.int .i64) fun (x3 : Int) =>
  C27 x3 vw2 fun r4 vw5 =>
    R (if 0 > r4 then 0 else r4) vw5
def pl28 : Plan := (.seq (.reg .seq) (.seq (.reg .seq) .leaf))
set_option maxRecDepth 100000 in
theorem T28 (g1 : TyA31) (w : World) (R : Int → World → Prop) (h : S28 g1 w R) : C28 g1 w R := by
  have e : fnT Tryd.prog ⟨FF, MAY, (fun _ _ => False)⟩ pl28 Tryd.f28 [.agg (Sig.cells LiA31 g1).toArray] w [(.one (.int .i64))] (fun s w => R s w) = S28 g1 w R := by kernel_rfl
  exact (fn_calls okF okM Tryd.func28 (by kernel_rfl) (by kernel_rfl) (e.mpr h)).mono fun _ _ ⟨s, he, hR⟩ => ⟨s, he, hR⟩

/-- foliant/foliantref50.Box -/
def S12 (g1 : TyA31) (w : World) (R : (Int × Int × Int × Int) → World → Prop) : Prop :=
  Nw w (.cells (Sig.cells LiA31 g1).toArray 32) fun vw2 =>
  Nw vw2 (.cells #[.int .i64 0, .int .i64 0, .int .i64 0, .int .i64 0] 27) fun vw3 =>
  ∃ vS4 : World → Prop, vS4 vw3.drew ∧ LdS vS4 ((⟨w.heap.size, 0, none⟩ : Addr).add 2) (Value.int .i64) fun (x5 : Int) =>
  LdS vS4 ((⟨w.heap.size, 0, none⟩ : Addr).add 4) (Value.int .i64) fun (x6 : Int) =>
  LdS vS4 (((⟨w.heap.size, 0, none⟩ : Addr).add 2).add 1) (Value.int .i64) fun (x7 : Int) =>
  LdS vS4 (((⟨w.heap.size, 0, none⟩ : Addr).add 4).add 1) (Value.int .i64) fun (x8 : Int) =>
  C27 x5 vw3.drew fun r9 vw10 =>
    vS4 vw10 ∧ C27 x6 vw10 fun r11 vw12 =>
      vS4 vw12 ∧ C27 x7 vw12 fun r13 vw14 =>
        vS4 vw14 ∧ C27 x8 vw14 fun r15 vw16 =>
          LdT vw16 (⟨w.heap.size, 0, none⟩ : Addr) 0 LiA31 fun (x17 : TyA31) =>
          C28 x17 vw16 fun r18 vw19 =>
            St vw19 (⟨vw2.heap.size, 0, none⟩ : Addr) (.int .i64 (if r11 < r9 then r11 else r9)) fun vw20 =>
            St vw20 ((⟨vw2.heap.size, 0, none⟩ : Addr).add 1) (.int .i64 (if r15 < r13 then r15 else r13)) fun vw21 =>
            St vw21 ((⟨vw2.heap.size, 0, none⟩ : Addr).add 2) (.int .i64 (if r11 > r9 then r11 else r9)) fun vw22 =>
            St vw22 ((⟨vw2.heap.size, 0, none⟩ : Addr).add 3) (.int .i64 (IntKind.i64.wrap ((if r15 > r13 then r15 else r13) + r18))) fun vw23 =>
            Ld vw23 (⟨vw2.heap.size, 0, none⟩ : Addr) (Value.int .i64) fun (x24 : Int) =>
            Ld vw23 ((⟨vw2.heap.size, 0, none⟩ : Addr).add 1) (Value.int .i64) fun (x25 : Int) =>
            Ld vw23 ((⟨vw2.heap.size, 0, none⟩ : Addr).add 2) (Value.int .i64) fun (x26 : Int) =>
            Ld vw23 ((⟨vw2.heap.size, 0, none⟩ : Addr).add 3) (Value.int .i64) fun (x27 : Int) =>
            R (x24, x25, x26, x27) vw23
def pl12 : Plan := (.seq (.reg .seq) (.seq (.reg (.held [15] (.take 0 (.take 1 (.take 2 (.take 4 (.take 5 (.take 6 (.take 8 (.take 9 (.take 10 (.take 12 (.take 13 (.take 14 (.eff 3 none (.eff 7 none (.eff 11 none (.eff 15 (some []) (.take 16 (.take 17 (.take 18 (.take 19 .done)))))))))))))))))))))) (.seq (.reg .seq) .leaf)))
set_option maxRecDepth 100000 in
theorem T12 (g1 : TyA31) (w : World) (R : (Int × Int × Int × Int) → World → Prop) (h : S12 g1 w R) : C12 g1 w R := by
  have e : fnT Tryd.prog ⟨FF, MAY, (fun _ _ => False)⟩ pl12 Tryd.f12 [.agg (Sig.cells LiA31 g1).toArray] w [(.agg [(.int .i64), (.int .i64), (.int .i64), (.int .i64)])] (fun s w => R s w) = S12 g1 w R := by kernel_rfl
  exact (fn_calls okF okM Tryd.func12 (by kernel_rfl) (by kernel_rfl) (e.mpr h)).mono fun _ _ ⟨s, he, hR⟩ => ⟨s, he, hR⟩

def S49L1 (s1 : ByteArray) (R : Bool → World → Prop) (I4 : Int → World → Prop) (s2 : Int) (vw3 : World) : Prop :=
  Br (decide (s2 < (((s1).size : Nat) : Int))) (0 ≤ s2 ∧ s2 < ((s1).size : Nat) ∧ Br ((bAt s1 s2) != 9) (0 ≤ s2 ∧ s2 < ((s1).size : Nat) ∧ Br ((bAt s1 s2) != 10) (0 ≤ s2 ∧ s2 < ((s1).size : Nat) ∧ Br ((bAt s1 s2) != 13) (0 ≤ s2 ∧ s2 < ((s1).size : Nat) ∧ Br ((bAt s1 s2) != 32) (R false vw3) (I4 (IntKind.i64.wrap (s2 + 1)) vw3)) (I4 (IntKind.i64.wrap (s2 + 1)) vw3)) (I4 (IntKind.i64.wrap (s2 + 1)) vw3)) (I4 (IntKind.i64.wrap (s2 + 1)) vw3)) (R true vw3)
/-- foliant/foliantref50.blank -/
def S49 (s1 : ByteArray) (w : World) (R : Bool → World → Prop) : Prop :=
  Lp (σ := Int) (S49L1 s1 R) 0 w
def pl49 : Plan := (.seq (.reg .seq) (.seq (.seq (.reg .seq) (.block (.loop [(3, (.one (.int .i64)))] [0] (.seq (.seq (.reg .seq) (.cond .leaf .leaf)) (.seq (.block (.seq (.reg .seq) (.cond (.seq (.reg .seq) .leaf) .leaf))) (.reg .seq)))))) (.seq (.reg .seq) .leaf)))
set_option maxRecDepth 100000 in
theorem T49 (s1 : ByteArray) (w : World) (R : Bool → World → Prop) (h : S49 s1 w R) : C49 s1 w R := by
  have e : fnT Tryd.prog ⟨FF, MAY, (fun _ _ => False)⟩ pl49 Tryd.f49 [.string s1] w [(.one .bool)] (fun s w => R s w) = S49 s1 w R := by kernel_rfl
  exact (fn_calls okF okM Tryd.func49 (by kernel_rfl) (by kernel_rfl) (e.mpr h)).mono fun _ _ ⟨s, he, hR⟩ => ⟨s, he, hR⟩

/-- foliant/foliantref50.both -/
def S50 (a1 : Int × Int × Int × Int) (b2 : Int × Int × Int × Int) (w : World) (R : (Int × Int × Int × Int) → World → Prop) : Prop :=
  Nw w (.cells #[.int .i64 (a1.1), .int .i64 (a1.2.1), .int .i64 (a1.2.2.1), .int .i64 (a1.2.2.2)] 27) fun vw3 =>
  Nw vw3 (.cells #[.int .i64 (b2.1), .int .i64 (b2.2.1), .int .i64 (b2.2.2.1), .int .i64 (b2.2.2.2)] 27) fun vw4 =>
  Nw vw4 (.cells #[.int .i64 0, .int .i64 0, .int .i64 0, .int .i64 0] 27) fun vw5 =>
  Ld vw5 (⟨w.heap.size, 0, none⟩ : Addr) (Value.int .i64) fun (x6 : Int) =>
  Ld vw5 (⟨vw3.heap.size, 0, none⟩ : Addr) (Value.int .i64) fun (x7 : Int) =>
  Ld vw5 ((⟨w.heap.size, 0, none⟩ : Addr).add 1) (Value.int .i64) fun (x8 : Int) =>
  Ld vw5 ((⟨vw3.heap.size, 0, none⟩ : Addr).add 1) (Value.int .i64) fun (x9 : Int) =>
  Ld vw5 ((⟨w.heap.size, 0, none⟩ : Addr).add 2) (Value.int .i64) fun (x10 : Int) =>
  Ld vw5 ((⟨vw3.heap.size, 0, none⟩ : Addr).add 2) (Value.int .i64) fun (x11 : Int) =>
  Ld vw5 ((⟨w.heap.size, 0, none⟩ : Addr).add 3) (Value.int .i64) fun (x12 : Int) =>
  Ld vw5 ((⟨vw3.heap.size, 0, none⟩ : Addr).add 3) (Value.int .i64) fun (x13 : Int) =>
  St vw5 (⟨vw4.heap.size, 0, none⟩ : Addr) (.int .i64 (if x7 < x6 then x7 else x6)) fun vw14 =>
  St vw14 ((⟨vw4.heap.size, 0, none⟩ : Addr).add 1) (.int .i64 (if x9 < x8 then x9 else x8)) fun vw15 =>
  St vw15 ((⟨vw4.heap.size, 0, none⟩ : Addr).add 2) (.int .i64 (if x11 > x10 then x11 else x10)) fun vw16 =>
  St vw16 ((⟨vw4.heap.size, 0, none⟩ : Addr).add 3) (.int .i64 (if x13 > x12 then x13 else x12)) fun vw17 =>
  Ld vw17 (⟨vw4.heap.size, 0, none⟩ : Addr) (Value.int .i64) fun (x18 : Int) =>
  Ld vw17 ((⟨vw4.heap.size, 0, none⟩ : Addr).add 1) (Value.int .i64) fun (x19 : Int) =>
  Ld vw17 ((⟨vw4.heap.size, 0, none⟩ : Addr).add 2) (Value.int .i64) fun (x20 : Int) =>
  Ld vw17 ((⟨vw4.heap.size, 0, none⟩ : Addr).add 3) (Value.int .i64) fun (x21 : Int) =>
  R (x18, x19, x20, x21) vw17
def pl50 : Plan := (.seq (.reg .seq) (.seq (.reg .seq) .leaf))
set_option maxRecDepth 100000 in
theorem T50 (a1 : Int × Int × Int × Int) (b2 : Int × Int × Int × Int) (w : World) (R : (Int × Int × Int × Int) → World → Prop) (h : S50 a1 b2 w R) : C50 (a1.1, a1.2.1, a1.2.2.1, a1.2.2.2) (b2.1, b2.2.1, b2.2.2.1, b2.2.2.2) w R := by
  have e : fnT Tryd.prog ⟨FF, MAY, (fun _ _ => False)⟩ pl50 Tryd.f50 [.agg #[.int .i64 (a1.1), .int .i64 (a1.2.1), .int .i64 (a1.2.2.1), .int .i64 (a1.2.2.2)], .agg #[.int .i64 (b2.1), .int .i64 (b2.2.1), .int .i64 (b2.2.2.1), .int .i64 (b2.2.2.2)]] w [(.agg [(.int .i64), (.int .i64), (.int .i64), (.int .i64)])] (fun s w => R s w) = S50 a1 b2 w R := by kernel_rfl
  exact (fn_calls okF okM Tryd.func50 (by kernel_rfl) (by kernel_rfl) (e.mpr h)).mono fun _ _ ⟨s, he, hR⟩ => ⟨s, he, hR⟩

def S26L1 (l1 : Slc) (s2 : Slc × Int) (I4 : (Slc × Int) → World → Prop) (x10 : Slc) (I14 : Int → World → Prop) (s12 : Int) (vw13 : World) : Prop :=
  ∃ vS26 : World → Prop, vS26 vw13.drew ∧ Br (decide (s12 > 0)) (0 ≤ (IntKind.i64.wrap (s12 - 1)) ∧ (IntKind.i64.wrap (s12 - 1)) < (x10.len : Nat) ∧ Nn x10.p fun a27 =>
    LdS vS26 (a27.add ((IntKind.i64.wrap (s12 - 1)).toNat * 1)) (Value.int .i64) fun (x28 : Int) =>
    0 ≤ x28 ∧ x28 < (l1.len : Nat) ∧ Nn l1.p fun a29 =>
    LdS vS26 (((a29.add ((x28).toNat * 9)).add 2).add 1) (Value.int .i64) fun (x30 : Int) =>
    0 ≤ s2.2 ∧ s2.2 < (l1.len : Nat) ∧ Nn l1.p fun a31 =>
    LdS vS26 (((a31.add ((s2.2).toNat * 9)).add 2).add 1) (Value.int .i64) fun (x32 : Int) =>
    C27 x30 vw13.drew fun r33 vw34 =>
      vS26 vw34 ∧ C27 x32 vw34 fun r35 vw36 =>
        Br (decide (r33 < r35)) (0 ≤ (IntKind.i64.wrap (s12 - 1)) ∧ (IntKind.i64.wrap (s12 - 1)) < (x10.len : Nat) ∧ Nn x10.p fun a37 =>
          Ld vw36 (a37.add ((IntKind.i64.wrap (s12 - 1)).toNat * 1)) (Value.int .i64) fun (x38 : Int) =>
          0 ≤ s12 ∧ s12 < (x10.len : Nat) ∧ Nn x10.p fun a39 =>
          St vw36 (a39.add ((s12).toNat * 1)) (.int .i64 x38) fun vw40 =>
          I14 (IntKind.i64.wrap (s12 - 1)) vw40) (0 ≤ s12 ∧ s12 < (x10.len : Nat) ∧ Nn x10.p fun a41 =>
          St vw36 (a41.add ((s12).toNat * 1)) (.int .i64 (s2.2)) fun vw42 =>
          I4 (x10, IntKind.i64.wrap (s2.2 + 1)) vw42)) (0 ≤ s12 ∧ s12 < (x10.len : Nat) ∧ Nn x10.p fun a43 =>
    St vw13.drew (a43.add ((s12).toNat * 1)) (.int .i64 (s2.2)) fun vw44 =>
    I4 (x10, IntKind.i64.wrap (s2.2 + 1)) vw44)
def S26L2 (l1 : Slc) (R : Slc → World → Prop) (I4 : (Slc × Int) → World → Prop) (s2 : Slc × Int) (vw3 : World) : Prop :=
  Br (decide (s2.2 < ((l1.len : Nat) : Int))) (0 ≤ s2.2 ∧ s2.2 < (l1.len : Nat) ∧ Nn l1.p fun a7 =>
    Ld vw3 ((a7.add ((s2.2).toNat * 9)).add 1) Value.string fun (x8 : ByteArray) =>
    Br (x8.toList == (⟨#[]⟩ : ByteArray).toList) (I4 (s2.1, IntKind.i64.wrap (s2.2 + 1)) vw3) (Nw vw3 (.cells #[.int .i64 (s2.2)] 3) fun vw9 =>
      Rn Tryd.prog (Builtin.append_ #[54, 54] 54 #[Slc.v s2.1, Slc.v ((⟨some ⟨vw3.heap.size, 0, none⟩, 1, 1⟩ : Slc))]) vw9 Slc.v fun (x10 : Slc) vw11 =>
      Lp (σ := Int) (S26L1 l1 s2 I4 x10) ((s2.1.len : Nat) : Int) vw11)) (R s2.1 vw3)
/-- foliant/foliantref50.falling -/
def S26 (l1 : Slc) (w : World) (R : Slc → World → Prop) : Prop :=
  Lp (σ := Slc × Int) (S26L2 l1 R) ((⟨none, 0, 0⟩ : Slc), 0) w
def pl26 : Plan := (.seq (.reg .seq) (.seq (.reg .seq) (.seq (.seq (.reg .seq) (.block (.loop [(3, (.one .slc)), (4, (.one (.int .i64)))] [0] (.seq (.seq (.reg .seq) (.cond .leaf .leaf)) (.seq (.block (.seq (.seq (.reg .seq) (.cond .leaf .leaf)) (.seq (.reg .seq) (.seq (.reg .seq) (.seq (.block (.loop [(5, (.one (.int .i64)))] [0, 3, 4] (.seq (.seq (.reg (.held [20] (.take 0 (.take 1 (.take 2 (.take 3 (.take 4 (.take 5 (.take 6 (.take 7 (.take 8 (.take 9 (.take 10 (.take 11 (.take 12 (.take 14 (.take 15 (.take 16 (.take 17 (.take 18 (.take 19 (.eff 13 none (.eff 20 (some []) (.take 21 (.take 22 .done))))))))))))))))))))))))) (.cond .leaf .leaf)) (.block (.seq (.reg .seq) (.reg .seq)))))) (.reg .seq)))))) (.reg .seq)))))) (.seq (.reg .seq) .leaf))))
set_option maxRecDepth 100000 in
theorem T26 (l1 : Slc) (w : World) (R : Slc → World → Prop) (h : S26 l1 w R) : C26 l1 w R := by
  have e : fnT Tryd.prog ⟨FF, MAY, (fun _ _ => False)⟩ pl26 Tryd.f26 [Slc.v l1] w [(.one .slc)] (fun s w => R s w) = S26 l1 w R := by kernel_rfl
  exact (fn_calls okF okM Tryd.func26 (by kernel_rfl) (by kernel_rfl) (e.mpr h)).mono fun _ _ ⟨s, he, hR⟩ => ⟨s, he, hR⟩

def S30L1 (l1 : Slc) (s3 : Slc × Int) (I5 : (Slc × Int) → World → Prop) (x7 : Int) (x9 : Slc) (I13 : Int → World → Prop) (s11 : Int) (vw12 : World) : Prop :=
  ∃ vS42 : World → Prop, vS42 vw12.drew ∧ Br (decide (s11 > 0)) (0 ≤ (IntKind.i64.wrap (s11 - 1)) ∧ (IntKind.i64.wrap (s11 - 1)) < (x9.len : Nat) ∧ Nn x9.p fun a43 =>
    LdS vS42 (a43.add ((IntKind.i64.wrap (s11 - 1)).toNat * 1)) (Value.int .i64) fun (x44 : Int) =>
    0 ≤ x44 ∧ x44 < (l1.len : Nat) ∧ Nn l1.p fun a45 =>
    LdS vS42 ((a45.add ((x44).toNat * 9)).add 2) (Value.int .i64) fun (x46 : Int) =>
    0 ≤ x7 ∧ x7 < (l1.len : Nat) ∧ Nn l1.p fun a47 =>
    LdS vS42 ((a47.add ((x7).toNat * 9)).add 2) (Value.int .i64) fun (x48 : Int) =>
    C27 x46 vw12.drew fun r49 vw50 =>
      vS42 vw50 ∧ C27 x48 vw50 fun r51 vw52 =>
        ∃ vS53 : World → Prop, vS53 vw52 ∧ Br (decide (r49 > r51)) (∃ vS54 : World → Prop, vS54 vw52 ∧ 0 ≤ (IntKind.i64.wrap (s11 - 1)) ∧ (IntKind.i64.wrap (s11 - 1)) < (x9.len : Nat) ∧ Nn x9.p fun a55 =>
          Ld vw52 (a55.add ((IntKind.i64.wrap (s11 - 1)).toNat * 1)) (Value.int .i64) fun (x56 : Int) =>
          0 ≤ s11 ∧ s11 < (x9.len : Nat) ∧ Nn x9.p fun a57 =>
          St vw52 (a57.add ((s11).toNat * 1)) (.int .i64 x56) fun vw58 =>
          I13 (IntKind.i64.wrap (s11 - 1)) vw58) (0 ≤ (IntKind.i64.wrap (s11 - 1)) ∧ (IntKind.i64.wrap (s11 - 1)) < (x9.len : Nat) ∧ Nn x9.p fun a59 =>
          LdS vS53 (a59.add ((IntKind.i64.wrap (s11 - 1)).toNat * 1)) (Value.int .i64) fun (x60 : Int) =>
          0 ≤ x60 ∧ x60 < (l1.len : Nat) ∧ Nn l1.p fun a61 =>
          LdS vS53 ((a61.add ((x60).toNat * 9)).add 2) (Value.int .i64) fun (x62 : Int) =>
          0 ≤ x7 ∧ x7 < (l1.len : Nat) ∧ Nn l1.p fun a63 =>
          LdS vS53 ((a63.add ((x7).toNat * 9)).add 2) (Value.int .i64) fun (x64 : Int) =>
          C27 x62 vw52 fun r65 vw66 =>
            vS53 vw66 ∧ C27 x64 vw66 fun r67 vw68 =>
              ∃ vS69 : World → Prop, vS69 vw68 ∧ Br (r65 == r67) (0 ≤ (IntKind.i64.wrap (s11 - 1)) ∧ (IntKind.i64.wrap (s11 - 1)) < (x9.len : Nat) ∧ Nn x9.p fun a70 =>
                LdS vS69 (a70.add ((IntKind.i64.wrap (s11 - 1)).toNat * 1)) (Value.int .i64) fun (x71 : Int) =>
                Br (decide (x71 > x7)) (0 ≤ (IntKind.i64.wrap (s11 - 1)) ∧ (IntKind.i64.wrap (s11 - 1)) < (x9.len : Nat) ∧ Nn x9.p fun a72 =>
                  Ld vw68 (a72.add ((IntKind.i64.wrap (s11 - 1)).toNat * 1)) (Value.int .i64) fun (x73 : Int) =>
                  0 ≤ s11 ∧ s11 < (x9.len : Nat) ∧ Nn x9.p fun a74 =>
                  St vw68 (a74.add ((s11).toNat * 1)) (.int .i64 x73) fun vw75 =>
                  I13 (IntKind.i64.wrap (s11 - 1)) vw75) (0 ≤ s11 ∧ s11 < (x9.len : Nat) ∧ Nn x9.p fun a76 =>
                  St vw68 (a76.add ((s11).toNat * 1)) (.int .i64 x7) fun vw77 =>
                  I5 (x9, IntKind.i64.wrap (s3.2 + 1)) vw77)) (0 ≤ s11 ∧ s11 < (x9.len : Nat) ∧ Nn x9.p fun a78 =>
                St vw68 (a78.add ((s11).toNat * 1)) (.int .i64 x7) fun vw79 =>
                I5 (x9, IntKind.i64.wrap (s3.2 + 1)) vw79))) (∃ vS80 : World → Prop, vS80 vw12.drew ∧ ∃ vS81 : World → Prop, vS81 vw12.drew ∧ 0 ≤ s11 ∧ s11 < (x9.len : Nat) ∧ Nn x9.p fun a82 =>
    St vw12.drew (a82.add ((s11).toNat * 1)) (.int .i64 x7) fun vw83 =>
    I5 (x9, IntKind.i64.wrap (s3.2 + 1)) vw83)
def S30L2 (l1 : Slc) (row2 : Slc) (R : Slc → World → Prop) (I5 : (Slc × Int) → World → Prop) (s3 : Slc × Int) (vw4 : World) : Prop :=
  Br (decide (s3.2 < ((row2.len : Nat) : Int))) (0 ≤ s3.2 ∧ s3.2 < (row2.len : Nat) ∧ Nn row2.p fun a6 =>
    Ld vw4 (a6.add ((s3.2).toNat * 1)) (Value.int .i64) fun (x7 : Int) =>
    Nw vw4 (.cells #[.int .i64 x7] 3) fun vw8 =>
    Rn Tryd.prog (Builtin.append_ #[54, 54] 54 #[Slc.v s3.1, Slc.v ((⟨some ⟨vw4.heap.size, 0, none⟩, 1, 1⟩ : Slc))]) vw8 Slc.v fun (x9 : Slc) vw10 =>
    Lp (σ := Int) (S30L1 l1 s3 I5 x7 x9) ((s3.1.len : Nat) : Int) vw10) (R s3.1 vw4)
/-- foliant/foliantref50.rising -/
def S30 (l1 : Slc) (row2 : Slc) (w : World) (R : Slc → World → Prop) : Prop :=
  Lp (σ := Slc × Int) (S30L2 l1 row2 R) ((⟨none, 0, 0⟩ : Slc), 0) w
def pl30 : Plan := (.seq (.reg .seq) (.seq (.reg .seq) (.seq (.seq (.reg .seq) (.block (.loop [(5, (.one .slc)), (6, (.one (.int .i64)))] [0, 1] (.seq (.seq (.reg .seq) (.cond .leaf .leaf)) (.seq (.block (.seq (.reg .seq) (.seq (.reg .seq) (.seq (.reg .seq) (.seq (.block (.loop [(8, (.one (.int .i64)))] [0, 1, 5, 6, 7] (.seq (.seq (.reg (.held [20] (.take 0 (.take 1 (.take 2 (.take 3 (.take 4 (.take 5 (.take 6 (.take 7 (.take 8 (.take 9 (.take 10 (.take 11 (.take 12 (.take 14 (.take 15 (.take 16 (.take 17 (.take 18 (.take 19 (.eff 13 none (.eff 20 (some [40]) (.take 21 (.take 22 (.take 23 (.take 24 (.take 25 (.take 26 (.take 27 (.take 28 (.take 29 (.take 30 (.take 31 (.take 32 (.take 34 (.take 35 (.take 36 (.take 37 (.take 38 (.take 39 (.eff 33 none (.eff 40 (some []) (.take 41 (.take 42 (.take 43 (.take 44 (.take 45 (.take 46 (.take 47 (.take 48 (.take 49 (.take 50 (.take 51 (.take 52 .done))))))))))))))))))))))))))))))))))))))))))))))))))))))) (.cond .leaf .leaf)) (.block (.seq (.reg .seq) (.reg .seq)))))) (.reg .seq)))))) (.reg .seq)))))) (.seq (.reg .seq) .leaf))))
set_option maxRecDepth 100000 in
theorem T30 (l1 : Slc) (row2 : Slc) (w : World) (R : Slc → World → Prop) (h : S30 l1 row2 w R) : C30 l1 row2 w R := by
  have e : fnT Tryd.prog ⟨FF, MAY, (fun _ _ => False)⟩ pl30 Tryd.f30 [Slc.v l1, Slc.v row2] w [(.one .slc)] (fun s w => R s w) = S30 l1 row2 w R := by kernel_rfl
  exact (fn_calls okF okM Tryd.func30 (by kernel_rfl) (by kernel_rfl) (e.mpr h)).mono fun _ _ ⟨s, he, hR⟩ => ⟨s, he, hR⟩

def S29J1 (vw3 : World) (s103 : Int) (vw104 : World) (I105 : Int → World → Prop) (s115 : Bool) (vw116 : World) : Prop :=
  Br s115 (Ld vw116 (⟨vw3.heap.size, 0, none⟩ : Addr) Slc.v fun (x117 : Slc) =>
    Ld vw116.drew (⟨vw3.heap.size, 0, none⟩ : Addr) Slc.v fun (x118 : Slc) =>
    Ld vw116.drew (⟨vw3.heap.size, 0, none⟩ : Addr) Slc.v fun (x119 : Slc) =>
    0 ≤ (IntKind.i64.wrap (((x117.len : Nat) : Int) - 1)) ∧ (IntKind.i64.wrap (((x117.len : Nat) : Int) - 1)) < (x119.len : Nat) ∧ Nn x119.p fun a120 =>
    Ld vw116.drew (a120.add ((IntKind.i64.wrap (((x117.len : Nat) : Int) - 1)).toNat * 5)) Value.string fun (x121 : ByteArray) =>
    Ld vw116.drew ((⟨vw104.heap.size, 0, none⟩ : Addr).add 1) Value.string fun (x122 : ByteArray) =>
    (((x121).size + (x122).size : Nat) : Int) ≤ IntKind.i64.max ∧ 0 ≤ (IntKind.i64.wrap (((x117.len : Nat) : Int) - 1)) ∧ (IntKind.i64.wrap (((x117.len : Nat) : Int) - 1)) < (x118.len : Nat) ∧ Nn x118.p fun a123 =>
    St vw116.drew (a123.add ((IntKind.i64.wrap (((x117.len : Nat) : Int) - 1)).toNat * 5)) (.string (x121 ++ x122)) fun vw124 =>
    ∃ vS125 : World → Prop, vS125 vw124.drew ∧ LdS vS125 (⟨vw3.heap.size, 0, none⟩ : Addr) Slc.v fun (x126 : Slc) =>
    LdS vS125 (⟨vw3.heap.size, 0, none⟩ : Addr) Slc.v fun (x127 : Slc) =>
    0 ≤ (IntKind.i64.wrap (((x117.len : Nat) : Int) - 1)) ∧ (IntKind.i64.wrap (((x117.len : Nat) : Int) - 1)) < (x127.len : Nat) ∧ Nn x127.p fun a128 =>
    LdS vS125 ((a128.add ((IntKind.i64.wrap (((x117.len : Nat) : Int) - 1)).toNat * 5)).add 1) (Value.int .i64) fun (x129 : Int) =>
    LdS vS125 (((a128.add ((IntKind.i64.wrap (((x117.len : Nat) : Int) - 1)).toNat * 5)).add 1).add 1) (Value.int .i64) fun (x130 : Int) =>
    LdS vS125 (((a128.add ((IntKind.i64.wrap (((x117.len : Nat) : Int) - 1)).toNat * 5)).add 1).add 2) (Value.int .i64) fun (x131 : Int) =>
    LdS vS125 (((a128.add ((IntKind.i64.wrap (((x117.len : Nat) : Int) - 1)).toNat * 5)).add 1).add 3) (Value.int .i64) fun (x132 : Int) =>
    LdST vS125 (⟨vw104.heap.size, 0, none⟩ : Addr) 0 LiA31 fun (x133 : TyA31) =>
    C12 x133 vw124.drew fun r134 vw135 =>
      vS125 vw135 ∧ C50 (x129, x130, x131, x132) (r134.1, r134.2.1, r134.2.2.1, r134.2.2.2) vw135 fun r136 vw137 =>
        vS125 vw137 ∧ 0 ≤ (IntKind.i64.wrap (((x117.len : Nat) : Int) - 1)) ∧ (IntKind.i64.wrap (((x117.len : Nat) : Int) - 1)) < (x126.len : Nat) ∧ Nn x126.p fun a138 =>
        St vw137 ((a138.add ((IntKind.i64.wrap (((x117.len : Nat) : Int) - 1)).toNat * 5)).add 1) (.int .i64 (r136.1)) fun vw139 =>
        St vw139 (((a138.add ((IntKind.i64.wrap (((x117.len : Nat) : Int) - 1)).toNat * 5)).add 1).add 1) (.int .i64 (r136.2.1)) fun vw140 =>
        St vw140 (((a138.add ((IntKind.i64.wrap (((x117.len : Nat) : Int) - 1)).toNat * 5)).add 1).add 2) (.int .i64 (r136.2.2.1)) fun vw141 =>
        St vw141 (((a138.add ((IntKind.i64.wrap (((x117.len : Nat) : Int) - 1)).toNat * 5)).add 1).add 3) (.int .i64 (r136.2.2.2)) fun vw142 =>
        I105 (IntKind.i64.wrap (s103 + 1)) vw142) (∃ vS143 : World → Prop, vS143 vw116.drew ∧ LdS vS143 (⟨vw3.heap.size, 0, none⟩ : Addr) Slc.v fun (x144 : Slc) =>
    LdS vS143 ((⟨vw104.heap.size, 0, none⟩ : Addr).add 1) Value.string fun (x145 : ByteArray) =>
    LdST vS143 (⟨vw104.heap.size, 0, none⟩ : Addr) 0 LiA31 fun (x146 : TyA31) =>
    C12 x146 vw116.drew fun r147 vw148 =>
      vS143 vw148 ∧ vS143 vw148 ∧ Nw vw148 (.cells #[.string x145, .int .i64 (r147.1), .int .i64 (r147.2.1), .int .i64 (r147.2.2.1), .int .i64 (r147.2.2.2)] 44) fun vw149 =>
      vS143 vw149 ∧ Rn Tryd.prog (Builtin.append_ #[35, 35] 35 #[Slc.v x144, Slc.v ((⟨some ⟨vw148.heap.size, 0, none⟩, 1, 1⟩ : Slc))]) vw149 Slc.v fun (x150 : Slc) vw151 =>
      St vw151 (⟨vw3.heap.size, 0, none⟩ : Addr) (Slc.v x150) fun vw152 =>
      I105 (IntKind.i64.wrap (s103 + 1)) vw152)
def S29L1 (w : World) (vw3 : World) (R : (TyA39) → World → Prop) (I178 : Int → World → Prop) (s176 : Int) (vw177 : World) : Prop :=
  Ld vw177 (⟨vw3.heap.size, 0, none⟩ : Addr) Slc.v fun (x180 : Slc) =>
  Br (decide (s176 < ((x180.len : Nat) : Int))) (Br (s176 == 0) (Ld vw177 (⟨vw3.heap.size, 0, none⟩ : Addr) Slc.v fun (x191 : Slc) =>
      0 ≤ (0 : Int) ∧ (0 : Int) < (x191.len : Nat) ∧ Nn x191.p fun a192 =>
      Ld vw177 ((a192.add (((0 : Int)).toNat * 5)).add 1) (Value.int .i64) fun (x193 : Int) =>
      Ld vw177 (((a192.add (((0 : Int)).toNat * 5)).add 1).add 1) (Value.int .i64) fun (x194 : Int) =>
      Ld vw177 (((a192.add (((0 : Int)).toNat * 5)).add 1).add 2) (Value.int .i64) fun (x195 : Int) =>
      Ld vw177 (((a192.add (((0 : Int)).toNat * 5)).add 1).add 3) (Value.int .i64) fun (x196 : Int) =>
      St vw177 ((⟨vw3.heap.size, 0, none⟩ : Addr).add 1) (.int .i64 x193) fun vw197 =>
      St vw197 (((⟨vw3.heap.size, 0, none⟩ : Addr).add 1).add 1) (.int .i64 x194) fun vw198 =>
      St vw198 (((⟨vw3.heap.size, 0, none⟩ : Addr).add 1).add 2) (.int .i64 x195) fun vw199 =>
      St vw199 (((⟨vw3.heap.size, 0, none⟩ : Addr).add 1).add 3) (.int .i64 x196) fun vw200 =>
      Ld vw200.drew ((⟨vw3.heap.size, 0, none⟩ : Addr).add 1) (Value.int .i64) fun (x201 : Int) =>
      Ld vw200.drew (((⟨vw3.heap.size, 0, none⟩ : Addr).add 1).add 1) (Value.int .i64) fun (x202 : Int) =>
      Ld vw200.drew (((⟨vw3.heap.size, 0, none⟩ : Addr).add 1).add 2) (Value.int .i64) fun (x203 : Int) =>
      Ld vw200.drew (((⟨vw3.heap.size, 0, none⟩ : Addr).add 1).add 3) (Value.int .i64) fun (x204 : Int) =>
      Ld vw200.drew (⟨vw3.heap.size, 0, none⟩ : Addr) Slc.v fun (x205 : Slc) =>
      0 ≤ s176 ∧ s176 < (x205.len : Nat) ∧ Nn x205.p fun a206 =>
      Ld vw200.drew ((a206.add ((s176).toNat * 5)).add 1) (Value.int .i64) fun (x207 : Int) =>
      Ld vw200.drew (((a206.add ((s176).toNat * 5)).add 1).add 1) (Value.int .i64) fun (x208 : Int) =>
      Ld vw200.drew (((a206.add ((s176).toNat * 5)).add 1).add 2) (Value.int .i64) fun (x209 : Int) =>
      Ld vw200.drew (((a206.add ((s176).toNat * 5)).add 1).add 3) (Value.int .i64) fun (x210 : Int) =>
      C50 (x201, x202, x203, x204) (x207, x208, x209, x210) vw200.drew fun r211 vw212 =>
        St vw212 ((⟨vw3.heap.size, 0, none⟩ : Addr).add 1) (.int .i64 (r211.1)) fun vw213 =>
        St vw213 (((⟨vw3.heap.size, 0, none⟩ : Addr).add 1).add 1) (.int .i64 (r211.2.1)) fun vw214 =>
        St vw214 (((⟨vw3.heap.size, 0, none⟩ : Addr).add 1).add 2) (.int .i64 (r211.2.2.1)) fun vw215 =>
        St vw215 (((⟨vw3.heap.size, 0, none⟩ : Addr).add 1).add 3) (.int .i64 (r211.2.2.2)) fun vw216 =>
        I178 (IntKind.i64.wrap (s176 + 1)) vw216) (Ld vw177.drew ((⟨vw3.heap.size, 0, none⟩ : Addr).add 1) (Value.int .i64) fun (x217 : Int) =>
      Ld vw177.drew (((⟨vw3.heap.size, 0, none⟩ : Addr).add 1).add 1) (Value.int .i64) fun (x218 : Int) =>
      Ld vw177.drew (((⟨vw3.heap.size, 0, none⟩ : Addr).add 1).add 2) (Value.int .i64) fun (x219 : Int) =>
      Ld vw177.drew (((⟨vw3.heap.size, 0, none⟩ : Addr).add 1).add 3) (Value.int .i64) fun (x220 : Int) =>
      Ld vw177.drew (⟨vw3.heap.size, 0, none⟩ : Addr) Slc.v fun (x221 : Slc) =>
      0 ≤ s176 ∧ s176 < (x221.len : Nat) ∧ Nn x221.p fun a222 =>
      Ld vw177.drew ((a222.add ((s176).toNat * 5)).add 1) (Value.int .i64) fun (x223 : Int) =>
      Ld vw177.drew (((a222.add ((s176).toNat * 5)).add 1).add 1) (Value.int .i64) fun (x224 : Int) =>
      Ld vw177.drew (((a222.add ((s176).toNat * 5)).add 1).add 2) (Value.int .i64) fun (x225 : Int) =>
      Ld vw177.drew (((a222.add ((s176).toNat * 5)).add 1).add 3) (Value.int .i64) fun (x226 : Int) =>
      C50 (x217, x218, x219, x220) (x223, x224, x225, x226) vw177.drew fun r227 vw228 =>
        St vw228 ((⟨vw3.heap.size, 0, none⟩ : Addr).add 1) (.int .i64 (r227.1)) fun vw229 =>
        St vw229 (((⟨vw3.heap.size, 0, none⟩ : Addr).add 1).add 1) (.int .i64 (r227.2.1)) fun vw230 =>
        St vw230 (((⟨vw3.heap.size, 0, none⟩ : Addr).add 1).add 2) (.int .i64 (r227.2.2.1)) fun vw231 =>
        St vw231 (((⟨vw3.heap.size, 0, none⟩ : Addr).add 1).add 3) (.int .i64 (r227.2.2.2)) fun vw232 =>
        I178 (IntKind.i64.wrap (s176 + 1)) vw232)) (LdT vw177 (⟨vw3.heap.size, 0, none⟩ : Addr) 0 LiA39 fun (x233 : TyA39) =>
    StT (⟨w.heap.size, 0, none⟩ : Addr) 0 LiA39 x233 vw177 fun vw234 =>
    LdT vw234 (⟨w.heap.size, 0, none⟩ : Addr) 0 LiA39 fun (x235 : TyA39) =>
    R x235 vw234)
def S29L2 (w : World) (l1 : Slc) (row2 : Slc) (vw3 : World) (R : (TyA39) → World → Prop) (I105 : Int → World → Prop) (s103 : Int) (vw104 : World) : Prop :=
  Br (decide (s103 < ((row2.len : Nat) : Int))) (0 ≤ s103 ∧ s103 < (row2.len : Nat) ∧ Nn row2.p fun a106 =>
    Ld vw104 (a106.add ((s103).toNat * 1)) (Value.int .i64) fun (x107 : Int) =>
    0 ≤ x107 ∧ x107 < (l1.len : Nat) ∧ Nn l1.p fun a108 =>
    LdT vw104 (a108.add ((x107).toNat * 9)) 0 LiA31 fun (x109 : TyA31) =>
    Nw vw104 (.cells #[.int .i64 0, .string ((⟨#[]⟩ : ByteArray)), .int .i64 0, .int .i64 0, .int .i64 0, .int .i64 0, .int .i64 0, .string ((⟨#[]⟩ : ByteArray)), .int .i64 0] 32) fun vw110 =>
    StT (⟨vw104.heap.size, 0, none⟩ : Addr) 0 LiA31 x109 vw110 fun vw111 =>
    Ld vw111 ((⟨vw104.heap.size, 0, none⟩ : Addr).add 1) Value.string fun (x112 : ByteArray) =>
    C49 x112 vw111 fun r113 vw114 =>
      Br r113 (I105 (IntKind.i64.wrap (s103 + 1)) vw114) (Join (S29J1 vw3 s103 vw104 I105) fun (vJ153 : Bool → World → Prop) =>
          Br (decide (s103 > 0)) (0 ≤ (IntKind.i64.wrap (s103 - 1)) ∧ (IntKind.i64.wrap (s103 - 1)) < (row2.len : Nat) ∧ Nn row2.p fun a154 =>
            Ld vw114 (a154.add ((IntKind.i64.wrap (s103 - 1)).toNat * 1)) (Value.int .i64) fun (x155 : Int) =>
            0 ≤ x155 ∧ x155 < (l1.len : Nat) ∧ Nn l1.p fun a156 =>
            LdT vw114 (a156.add ((x155).toNat * 9)) 0 LiA31 fun (x157 : TyA31) =>
            Nw vw114 (.cells #[.int .i64 0, .string ((⟨#[]⟩ : ByteArray)), .int .i64 0, .int .i64 0, .int .i64 0, .int .i64 0, .int .i64 0, .string ((⟨#[]⟩ : ByteArray)), .int .i64 0] 32) fun vw158 =>
            StT (⟨vw114.heap.size, 0, none⟩ : Addr) 0 LiA31 x157 vw158 fun vw159 =>
            ∃ vS160 : World → Prop, vS160 vw159.drew ∧ LdS vS160 ((⟨vw104.heap.size, 0, none⟩ : Addr).add 2) (Value.int .i64) fun (x161 : Int) =>
            LdS vS160 ((⟨vw114.heap.size, 0, none⟩ : Addr).add 4) (Value.int .i64) fun (x162 : Int) =>
            C27 x161 vw159.drew fun r163 vw164 =>
              vS160 vw164 ∧ C27 x162 vw164 fun r165 vw166 =>
                Ld vw166 ((⟨vw114.heap.size, 0, none⟩ : Addr).add 1) Value.string fun (x167 : ByteArray) =>
                C49 x167 vw166 fun r168 vw169 =>
                  Br (!r168) (LdT vw169 (⟨vw114.heap.size, 0, none⟩ : Addr) 0 LiA31 fun (x170 : TyA31) =>
                    C28 x170 vw169 fun r171 vw172 =>
                      Br (decide ((IntKind.i64.wrap (r163 - r165)) ≤ (IntKind.i64.wrap (Int.tdiv r171 4)))) (LdT vw172 (⟨vw114.heap.size, 0, none⟩ : Addr) 0 LiA31 fun (x173 : TyA31) =>
                        C28 x173 vw172 fun r174 vw175 =>
                          vJ153 (decide ((IntKind.i64.wrap (r163 - r165)) ≥ (IntKind.i64.wrap (0 - r174)))) vw175) (vJ153 false vw172)) (vJ153 false vw169)) (vJ153 false vw114))) (Lp (σ := Int) (S29L1 w vw3 R) 0 vw104)
/-- foliant/foliantref50.line -/
def S29 (l1 : Slc) (row2 : Slc) (w : World) (R : (TyA39) → World → Prop) : Prop :=
  Nw w (.cells #[Slc.v ((⟨none, 0, 0⟩ : Slc)), .int .i64 0, .int .i64 0, .int .i64 0, .int .i64 0] 40) fun vw3 =>
  Nw vw3 (.cells #[Slc.v ((⟨none, 0, 0⟩ : Slc)), .int .i64 0, .int .i64 0, .int .i64 0, .int .i64 0] 40) fun vw4 =>
  Lp (σ := Int) (S29L2 w l1 row2 vw3 R) 0 vw4
def pl29 : Plan := (.seq (.reg .seq) (.seq (.reg .seq) (.seq (.seq (.reg .seq) (.block (.loop [(6, (.one (.int .i64)))] [0, 1, 4, 5] (.seq (.seq (.reg .seq) (.cond .leaf .leaf)) (.seq (.block (.seq (.reg .seq) (.seq (.seq (.reg .seq) (.cond .leaf .leaf)) (.seq (.reg .seq) (.join [(8, (.one .bool))] [0, 1, 4, 5, 6, 7] (.seq (.reg .seq) (.cond (.seq (.reg .seq) (.seq (.reg (.held [7] (.take 0 (.take 1 (.take 2 (.take 4 (.take 5 (.take 6 (.eff 3 none (.eff 7 (some []) (.take 8 (.take 9 .done)))))))))))) (.reg .seq))) .leaf)) (.seq (.reg .seq) (.cond (.seq (.reg .seq) (.seq (.reg (.tail 14)) (.reg (.held [14] (.take 0 (.take 1 (.take 2 (.take 3 (.take 4 (.take 5 (.take 6 (.take 7 (.take 8 (.take 9 (.eff 10 none (.eff 11 none (.take 12 (.take 13 (.eff 14 (some []) .done))))))))))))))))))) (.reg (.held [8] (.take 0 (.take 1 (.take 2 (.take 3 (.take 4 (.eff 5 none (.eff 6 none (.eff 7 none (.eff 8 (some [10]) (.take 9 (.eff 10 (some []) .done)))))))))))))))))))) (.reg .seq)))))) (.seq (.seq (.reg .seq) (.block (.loop [(12, (.one (.int .i64)))] [4, 5] (.seq (.seq (.reg .seq) (.cond .leaf .leaf)) (.seq (.block (.seq (.seq (.reg .seq) (.cond (.reg .seq) .leaf)) (.reg (.tail 8)))) (.reg .seq)))))) (.seq (.reg .seq) .leaf)))))
set_option maxRecDepth 100000 in
theorem T29 (l1 : Slc) (row2 : Slc) (w : World) (R : (TyA39) → World → Prop) (h : S29 l1 row2 w R) : C29 l1 row2 w R := by
  have e : fnT Tryd.prog ⟨FF, MAY, (fun _ _ => False)⟩ pl29 Tryd.f29 [Slc.v l1, Slc.v row2] w [(.agg [.slc, (.int .i64), (.int .i64), (.int .i64), (.int .i64)])] (fun s w => R s w) = S29 l1 row2 w R := by kernel_rfl
  exact (fn_calls okF okM Tryd.func29 (by kernel_rfl) (by kernel_rfl) (e.mpr h)).mono fun _ _ ⟨s, he, hR⟩ => ⟨s, he, hR⟩

def S10L1 (l1 : Slc) (s4 : Slc × Slc) (vw5 : World) (I6 : (Slc × Slc) → World → Prop) (I32 : Int → World → Prop) (s30 : Int) (vw31 : World) : Prop :=
  ∃ vS33 : World → Prop, vS33 vw31.drew ∧ Br (decide (s30 < ((s4.2.len : Nat) : Int))) (LdS vS33 (((⟨vw5.drew.heap.size, 0, none⟩ : Addr).add 2).add 1) (Value.int .i64) fun (x34 : Int) =>
    0 ≤ s30 ∧ s30 < (s4.2.len : Nat) ∧ Nn s4.2.p fun a35 =>
    LdS vS33 (a35.add ((s30).toNat * 1)) (Value.int .i64) fun (x36 : Int) =>
    0 ≤ x36 ∧ x36 < (l1.len : Nat) ∧ Nn l1.p fun a37 =>
    LdS vS33 (((a37.add ((x36).toNat * 9)).add 2).add 1) (Value.int .i64) fun (x38 : Int) =>
    LdST vS33 (⟨vw5.drew.heap.size, 0, none⟩ : Addr) 0 LiA31 fun (x39 : TyA31) =>
    C27 x34 vw31.drew fun r40 vw41 =>
      vS33 vw41 ∧ C27 x38 vw41 fun r42 vw43 =>
        vS33 vw43 ∧ C28 x39 vw43 fun r44 vw45 =>
          Br (decide ((IntKind.i64.wrap (r40 - r42)) ≤ (IntKind.i64.wrap (Int.tdiv r44 2)))) (I32 (IntKind.i64.wrap (s30 + 1)) vw45) (0 ≤ s30 ∧ s30 ≤ ((s4.2.cap : Nat) : Int) ∧ C30 l1 (s4.2.cut 1 0 ((s30).toNat) s4.2.cap) vw45 fun r46 vw47 =>
              C29 l1 r46 vw47 fun r48 vw49 =>
                Nw vw49 (.cells #[Slc.v ((⟨none, 0, 0⟩ : Slc)), .int .i64 0, .int .i64 0, .int .i64 0, .int .i64 0] 40) fun vw50 =>
                StT (⟨vw49.heap.size, 0, none⟩ : Addr) 0 LiA39 r48 vw50 fun vw51 =>
                Ld vw51 (⟨vw49.heap.size, 0, none⟩ : Addr) Slc.v fun (x52 : Slc) =>
                Br (decide (((x52.len : Nat) : Int) > 0)) (LdT vw51 (⟨vw49.heap.size, 0, none⟩ : Addr) 0 LiA39 fun (x53 : TyA39) =>
                  Nw vw51 (.cells #[Slc.v x53.1, .int .i64 (x53.2.1), .int .i64 (x53.2.2.1), .int .i64 (x53.2.2.2.1), .int .i64 (x53.2.2.2.2)] 40) fun vw54 =>
                  Rn Tryd.prog (Builtin.append_ #[24, 24] 24 #[Slc.v s4.1, Slc.v ((⟨some ⟨vw51.heap.size, 0, none⟩, 1, 1⟩ : Slc))]) vw54 Slc.v fun (x55 : Slc) vw56 =>
                  0 ≤ s30 ∧ s30 ≤ ((s4.2.len : Nat) : Int) ∧ I6 (x55, s4.2.cut 1 ((s30).toNat) s4.2.len s4.2.cap) vw56) (0 ≤ s30 ∧ s30 ≤ ((s4.2.len : Nat) : Int) ∧ I6 (s4.1, s4.2.cut 1 ((s30).toNat) s4.2.len s4.2.cap) vw51))) (0 ≤ s30 ∧ s30 ≤ ((s4.2.cap : Nat) : Int) ∧ C30 l1 (s4.2.cut 1 0 ((s30).toNat) s4.2.cap) vw31.drew fun r57 vw58 =>
      C29 l1 r57 vw58 fun r59 vw60 =>
        Nw vw60 (.cells #[Slc.v ((⟨none, 0, 0⟩ : Slc)), .int .i64 0, .int .i64 0, .int .i64 0, .int .i64 0] 40) fun vw61 =>
        StT (⟨vw60.heap.size, 0, none⟩ : Addr) 0 LiA39 r59 vw61 fun vw62 =>
        Ld vw62 (⟨vw60.heap.size, 0, none⟩ : Addr) Slc.v fun (x63 : Slc) =>
        Br (decide (((x63.len : Nat) : Int) > 0)) (LdT vw62 (⟨vw60.heap.size, 0, none⟩ : Addr) 0 LiA39 fun (x64 : TyA39) =>
          Nw vw62 (.cells #[Slc.v x64.1, .int .i64 (x64.2.1), .int .i64 (x64.2.2.1), .int .i64 (x64.2.2.2.1), .int .i64 (x64.2.2.2.2)] 40) fun vw65 =>
          Rn Tryd.prog (Builtin.append_ #[24, 24] 24 #[Slc.v s4.1, Slc.v ((⟨some ⟨vw62.heap.size, 0, none⟩, 1, 1⟩ : Slc))]) vw65 Slc.v fun (x66 : Slc) vw67 =>
          0 ≤ s30 ∧ s30 ≤ ((s4.2.len : Nat) : Int) ∧ I6 (x66, s4.2.cut 1 ((s30).toNat) s4.2.len s4.2.cap) vw67) (0 ≤ s30 ∧ s30 ≤ ((s4.2.len : Nat) : Int) ∧ I6 (s4.1, s4.2.cut 1 ((s30).toNat) s4.2.len s4.2.cap) vw62))
def S10L2 (l1 : Slc) (R : Slc → World → Prop) (I6 : (Slc × Slc) → World → Prop) (s4 : Slc × Slc) (vw5 : World) : Prop :=
  Br (decide (((s4.2.len : Nat) : Int) > 0)) (∃ vS7 : World → Prop, vS7 vw5.drew ∧ 0 ≤ (0 : Int) ∧ (0 : Int) < (s4.2.len : Nat) ∧ Nn s4.2.p fun a8 =>
    LdS vS7 (a8.add (((0 : Int)).toNat * 1)) (Value.int .i64) fun (x9 : Int) =>
    0 ≤ x9 ∧ x9 < (l1.len : Nat) ∧ Nn l1.p fun a10 =>
    LdST vS7 (a10.add ((x9).toNat * 9)) 0 LiA31 fun (x11 : TyA31) =>
    Nw vw5.drew (.cells #[.int .i64 0, .string ((⟨#[]⟩ : ByteArray)), .int .i64 0, .int .i64 0, .int .i64 0, .int .i64 0, .int .i64 0, .string ((⟨#[]⟩ : ByteArray)), .int .i64 0] 32) fun vw12 =>
    vS7 vw12 ∧ StT (⟨vw5.drew.heap.size, 0, none⟩ : Addr) 0 LiA31 x11 vw12 fun vw13 =>
    Lp (σ := Int) (S10L1 l1 s4 vw5 I6) 0 vw13) (R s4.1 vw5)
/-- foliant/foliantref50.Lines -/
def S10 (l1 : Slc) (w : World) (R : Slc → World → Prop) : Prop :=
  C26 l1 w fun r2 vw3 =>
    Lp (σ := Slc × Slc) (S10L2 l1 R) ((⟨none, 0, 0⟩ : Slc), r2) vw3
def pl10 : Plan := (.seq (.reg .seq) (.seq (.reg .seq) (.seq (.reg .seq) (.seq (.block (.loop [(3, (.one .slc)), (4, (.one .slc))] [0] (.seq (.seq (.reg .seq) (.cond .leaf .leaf)) (.block (.seq (.reg (.held [8] (.take 0 (.take 1 (.take 2 (.take 3 (.take 4 (.take 5 (.eff 6 none (.take 7 (.eff 8 (some []) .done))))))))))) (.seq (.block (.loop [(5, (.one (.int .i64)))] [0, 3, 4, 6] (.seq (.seq (.reg (.held [21] (.take 0 (.take 1 (.take 2 (.take 3 (.take 4 (.take 5 (.take 6 (.take 7 (.take 9 (.take 10 (.take 11 (.take 12 (.take 13 (.take 14 (.take 15 (.take 16 (.take 17 (.take 20 (.eff 8 none (.eff 18 none (.take 19 (.eff 21 (some []) (.take 22 (.take 23 (.take 24 .done))))))))))))))))))))))))))) (.cond .leaf .leaf)) (.block (.reg .seq))))) (.seq (.reg .seq) (.seq (.seq (.reg .seq) (.cond (.reg .seq) .leaf)) (.reg .seq))))))))) (.seq (.reg .seq) .leaf)))))
set_option maxRecDepth 100000 in
theorem T10 (l1 : Slc) (w : World) (R : Slc → World → Prop) (h : S10 l1 w R) : C10 l1 w R := by
  have e : fnT Tryd.prog ⟨FF, MAY, (fun _ _ => False)⟩ pl10 Tryd.f10 [Slc.v l1] w [(.one .slc)] (fun s w => R s w) = S10 l1 w R := by kernel_rfl
  exact (fn_calls okF okM Tryd.func10 (by kernel_rfl) (by kernel_rfl) (e.mpr h)).mono fun _ _ ⟨s, he, hR⟩ => ⟨s, he, hR⟩

def S16L1 (r2 : Slc) (R : Slc → World → Prop) (I6 : (Slc × Int) → World → Prop) (s4 : Slc × Int) (vw5 : World) : Prop :=
  Br (decide (s4.2 < ((r2.len : Nat) : Int))) (0 ≤ s4.2 ∧ s4.2 < (r2.len : Nat) ∧ Nn r2.p fun a7 =>
    Ld vw5 (a7.add ((s4.2).toNat * 5)) Slc.v fun (x8 : Slc) =>
    Rn Tryd.prog (Builtin.append_ #[35, 35] 35 #[Slc.v s4.1, Slc.v x8]) vw5 Slc.v fun (x9 : Slc) vw10 =>
    I6 (x9, IntKind.i64.wrap (s4.2 + 1)) vw10) (R s4.1 vw5)
/-- foliant/foliantref50.Words -/
def S16 (l1 : Slc) (w : World) (R : Slc → World → Prop) : Prop :=
  C10 l1 w fun r2 vw3 =>
    Lp (σ := Slc × Int) (S16L1 r2 R) ((⟨none, 0, 0⟩ : Slc), 0) vw3
def pl16 : Plan := (.seq (.reg .seq) (.seq (.reg .seq) (.seq (.reg .seq) (.seq (.seq (.reg .seq) (.block (.loop [(3, (.one .slc)), (5, (.one (.int .i64)))] [4] (.seq (.seq (.reg .seq) (.cond .leaf .leaf)) (.seq (.block (.reg .seq)) (.reg .seq)))))) (.seq (.reg .seq) .leaf)))))
set_option maxRecDepth 100000 in
theorem T16 (l1 : Slc) (w : World) (R : Slc → World → Prop) (h : S16 l1 w R) : C16 l1 w R := by
  have e : fnT Tryd.prog ⟨FF, MAY, (fun _ _ => False)⟩ pl16 Tryd.f16 [Slc.v l1] w [(.one .slc)] (fun s w => R s w) = S16 l1 w R := by kernel_rfl
  exact (fn_calls okF okM Tryd.func16 (by kernel_rfl) (by kernel_rfl) (e.mpr h)).mono fun _ _ ⟨s, he, hR⟩ => ⟨s, he, hR⟩

def S3L1 (l1 : Slc) (r6 : Slc) (r8 : Slc) (R : Bool → World → Prop) (I24 : Int → World → Prop) (s22 : Int) (vw23 : World) : Prop :=
  Br (decide (s22 < ((l1.len : Nat) : Int))) (∃ vS25 : World → Prop, vS25 vw23.drew ∧ 0 ≤ s22 ∧ s22 < (l1.len : Nat) ∧ Nn l1.p fun a26 =>
    LdST vS25 (a26.add ((s22).toNat * 9)) 0 LiA31 fun (x27 : TyA31) =>
    0 ≤ s22 ∧ s22 < (l1.len : Nat) ∧ Nn l1.p fun a28 =>
    LdST vS25 (a28.add ((s22).toNat * 9)) 0 LiA31 fun (x29 : TyA31) =>
    C11 x27 vw23.drew fun r30 vw31 =>
      vS25 vw31 ∧ C12 x29 vw31 fun r32 vw33 =>
        Br (!((r30.1 == r32.1) && ((r30.2.1 == r32.2.1) && ((r30.2.2.1 == r32.2.2.1) && ((r30.2.2.2 == r32.2.2.2) && true))))) (R false vw33) (I24 (IntKind.i64.wrap (s22 + 1)) vw33)) (C13 r6 r8 vw23 fun r34 vw35 =>
      Br r34 (C15 l1 vw35 fun r36 vw37 =>
          C16 l1 vw37 fun r38 vw39 =>
            C14 r36 r38 vw39 fun r40 vw41 =>
              Br r40 (C17 r6 vw41 fun r42 vw43 =>
                  C18 r8 vw43 fun r44 vw45 =>
                    Br (r42.toList == r44.toList) (C8 vw45 fun r46 vw47 =>
                        R r46 vw47) (R false vw45)) (R false vw41)) (R false vw35))
/-- foliant/foliantlaw50.OrderTells -/
def S3 (l1 : Slc) (w : World) (R : Bool → World → Prop) : Prop :=
  Br (decide (((l1.len : Nat) : Int) > 80)) (C8 w fun r4 vw5 =>
      R r4 vw5) (C9 l1 w fun r6 vw7 =>
      C10 l1 vw7 fun r8 vw9 =>
        Lp (σ := Int) (S3L1 l1 r6 r8 R) 0 vw9)
def pl3 : Plan := (.seq (.reg .seq) (.seq (.seq (.reg .seq) (.cond (.seq (.reg .seq) .leaf) .leaf)) (.seq (.reg .seq) (.seq (.seq (.reg .seq) (.block (.loop [(5, (.one (.int .i64)))] [0, 3, 4] (.seq (.seq (.reg .seq) (.cond .leaf .leaf)) (.seq (.block (.seq (.reg (.held [9] (.take 0 (.take 1 (.take 2 (.take 3 (.take 5 (.take 6 (.take 7 (.take 8 (.eff 4 none (.eff 9 (some []) (.take 10 .done))))))))))))) (.cond (.seq (.reg .seq) .leaf) .leaf))) (.reg .seq)))))) (.seq (.reg .seq) .leaf)))))
set_option maxRecDepth 100000 in
theorem T3 (l1 : Slc) (w : World) (R : Bool → World → Prop) (h : S3 l1 w R) : C3 l1 w R := by
  have e : fnT Tryd.prog ⟨FF, MAY, (fun _ _ => False)⟩ pl3 Tryd.f3 [Slc.v l1] w [(.one .bool)] (fun s w => R s w) = S3 l1 w R := by kernel_rfl
  exact (fn_calls okF okM Tryd.func3 (by kernel_rfl) (by kernel_rfl) (e.mpr h)).mono fun _ _ ⟨s, he, hR⟩ => ⟨s, he, hR⟩

end Go.Proofs.YtodhdkbhmkinjaaDoor
