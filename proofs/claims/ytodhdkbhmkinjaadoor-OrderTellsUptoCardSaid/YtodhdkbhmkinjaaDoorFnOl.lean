/- The formulas of 5 functions of the program, written by program (gen.py); the kernel checks each. No condition. -/
import Derived.Test.YtodhdkbhmkinjaaDoorFn
import Derived.Test.YtodhdkbhmkinjaaDoorFnSs
namespace Go.Proofs.YtodhdkbhmkinjaaDoor
open Sh
set_option linter.unusedVariables false
set_option maxRecDepth 100000

def C42 (x1 : Slc) (cmp2 : Value) (w : World) (R : World → Prop) : Prop :=
  Calls Tryd.prog 42 #[Slc.v x1, cmp2] w fun e w' => e = .returned (.tuple #[]) ∧ R w'
theorem C42.mono {x1 : Slc} {cmp2 : Value} {w : World} {R R' : World → Prop} (h : C42 x1 cmp2 w R) (hr : ∀ w', R w' → R' w') : C42 x1 cmp2 w R' :=
  Calls.mono h fun _ _ ⟨he, hR⟩ => ⟨he, hr _ hR⟩
def C24 (l1 : Slc) (w : World) (R : Slc → World → Prop) : Prop :=
  Calls Tryd.prog 24 #[Slc.v l1] w fun e w' => ∃ r0 : Slc, e = .returned (Slc.v r0) ∧ R r0 w'
theorem C24.mono {l1 : Slc} {w : World} {R R' : Slc → World → Prop} (h : C24 l1 w R) (hr : ∀ r0 w', R r0 w' → R' r0 w') : C24 l1 w R' :=
  Calls.mono h fun _ _ ⟨r0, he, hR⟩ => ⟨r0, he, hr _ _ hR⟩
def C25 (row1 : Slc) (w : World) (R : (TyA39) → Bool → World → Prop) : Prop :=
  Calls Tryd.prog 25 #[Slc.v row1] w fun e w' => ∃ r0 : TyA39, ∃ r1 : Bool, e = .returned (.tuple #[.agg (Sig.cells LiA39 r0).toArray, .bool r1]) ∧ R r0 r1 w'
theorem C25.mono {row1 : Slc} {w : World} {R R' : (TyA39) → Bool → World → Prop} (h : C25 row1 w R) (hr : ∀ r0 r1 w', R r0 r1 w' → R' r0 r1 w') : C25 row1 w R' :=
  Calls.mono h fun _ _ ⟨r0, r1, he, hR⟩ => ⟨r0, r1, he, hr _ _ _ hR⟩
def C9 (l1 : Slc) (w : World) (R : Slc → World → Prop) : Prop :=
  Calls Tryd.prog 9 #[Slc.v l1] w fun e w' => ∃ r0 : Slc, e = .returned (Slc.v r0) ∧ R r0 w'
theorem C9.mono {l1 : Slc} {w : World} {R R' : Slc → World → Prop} (h : C9 l1 w R) (hr : ∀ r0 w', R r0 w' → R' r0 w') : C9 l1 w R' :=
  Calls.mono h fun _ _ ⟨r0, he, hR⟩ => ⟨r0, he, hr _ _ hR⟩
def C15 (l1 : Slc) (w : World) (R : Slc → World → Prop) : Prop :=
  Calls Tryd.prog 15 #[Slc.v l1] w fun e w' => ∃ r0 : Slc, e = .returned (Slc.v r0) ∧ R r0 w'
theorem C15.mono {l1 : Slc} {w : World} {R R' : Slc → World → Prop} (h : C15 l1 w R) (hr : ∀ r0 w', R r0 w' → R' r0 w') : C15 l1 w R' :=
  Calls.mono h fun _ _ ⟨r0, he, hR⟩ => ⟨r0, he, hr _ _ hR⟩



def S24L1 (s66 : Slc × Int) (R : Slc → World → Prop) (I103 : Int → World → Prop) (s101 : Int) (vw102 : World) : Prop :=
  Br (decide (s101 < ((s66.1.len : Nat) : Int))) (0 ≤ s101 ∧ s101 < (s66.1.len : Nat) ∧ Nn s66.1.p fun a104 =>
    Ld vw102 (a104.add ((s101).toNat * 1)) Slc.v fun (x105 : Slc) =>
    C42 x105 (.func (.func 43) #[] #[]) vw102 fun vw106 =>
      I103 (IntKind.i64.wrap (s101 + 1)) vw106) (R s66.1 vw102)
def S24L2 (s16 : Slc × Int) (R : Slc → World → Prop) (I68 : (Slc × Int) → World → Prop) (s66 : Slc × Int) (vw67 : World) : Prop :=
  Br (decide (s66.2 < ((s16.1.len : Nat) : Int))) (0 ≤ s66.2 ∧ s66.2 < (s16.1.len : Nat) ∧ Nn s16.1.p fun a69 =>
    LdT vw67 (a69.add ((s66.2).toNat * 10)) 0 LiA60 fun (x70 : TyA60) =>
    Nw vw67 (.cells #[.int .i64 0, .string ((⟨#[]⟩ : ByteArray)), .int .i64 0, .int .i64 0, .int .i64 0, .int .i64 0, .int .i64 0, .string ((⟨#[]⟩ : ByteArray)), .int .i64 0, .int .i64 0] 61) fun vw71 =>
    StT (⟨vw67.heap.size, 0, none⟩ : Addr) 0 LiA60 x70 vw71 fun vw72 =>
    Br (decide (((s66.1.len : Nat) : Int) > 0)) (0 ≤ (IntKind.i64.wrap (((s66.1.len : Nat) : Int) - 1)) ∧ (IntKind.i64.wrap (((s66.1.len : Nat) : Int) - 1)) < (s66.1.len : Nat) ∧ Nn s66.1.p fun a73 =>
      Ld vw72 (a73.add ((IntKind.i64.wrap (((s66.1.len : Nat) : Int) - 1)).toNat * 1)) Slc.v fun (x74 : Slc) =>
      0 ≤ (0 : Int) ∧ (0 : Int) < (x74.len : Nat) ∧ Nn x74.p fun a75 =>
      LdT vw72 (a75.add (((0 : Int)).toNat * 10)) 0 LiA60 fun (x76 : TyA60) =>
      Nw vw72 (.cells #[.int .i64 0, .string ((⟨#[]⟩ : ByteArray)), .int .i64 0, .int .i64 0, .int .i64 0, .int .i64 0, .int .i64 0, .string ((⟨#[]⟩ : ByteArray)), .int .i64 0, .int .i64 0] 61) fun vw77 =>
      StT (⟨vw72.heap.size, 0, none⟩ : Addr) 0 LiA60 x76 vw77 fun vw78 =>
      Ld vw78 (((⟨vw72.heap.size, 0, none⟩ : Addr).add 2).add 1) (Value.int .i64) fun (x79 : Int) =>
      Ld vw78 (((⟨vw67.heap.size, 0, none⟩ : Addr).add 2).add 1) (Value.int .i64) fun (x80 : Int) =>
      Ld vw78 ((⟨vw72.heap.size, 0, none⟩ : Addr).add 6) (Value.int .i64) fun (x81 : Int) =>
      Br (decide ((IntKind.i64.wrap (x79 - x80)) ≤ (IntKind.i64.wrap (Int.tdiv x81 2)))) (∃ vS82 : World → Prop, vS82 vw78.drew ∧ 0 ≤ (IntKind.i64.wrap (((s66.1.len : Nat) : Int) - 1)) ∧ (IntKind.i64.wrap (((s66.1.len : Nat) : Int) - 1)) < (s66.1.len : Nat) ∧ Nn s66.1.p fun a83 =>
        LdS vS82 (a83.add ((IntKind.i64.wrap (((s66.1.len : Nat) : Int) - 1)).toNat * 1)) Slc.v fun (x84 : Slc) =>
        LdST vS82 (⟨vw67.heap.size, 0, none⟩ : Addr) 0 LiA60 fun (x85 : TyA60) =>
        Nw vw78.drew (.cells #[.int .i64 (x85.1), .string x85.2.1, .int .i64 (x85.2.2.1), .int .i64 (x85.2.2.2.1), .int .i64 (x85.2.2.2.2.1), .int .i64 (x85.2.2.2.2.2.1), .int .i64 (x85.2.2.2.2.2.2.1), .string x85.2.2.2.2.2.2.2.1, .int .i64 (x85.2.2.2.2.2.2.2.2.1), .int .i64 (x85.2.2.2.2.2.2.2.2.2)] 61) fun vw86 =>
        vS82 vw86 ∧ Rn Tryd.prog (Builtin.append_ #[51, 51] 51 #[Slc.v x84, Slc.v ((⟨some ⟨vw78.drew.heap.size, 0, none⟩, 1, 1⟩ : Slc))]) vw86 Slc.v fun (x87 : Slc) vw88 =>
        0 ≤ (IntKind.i64.wrap (((s66.1.len : Nat) : Int) - 1)) ∧ (IntKind.i64.wrap (((s66.1.len : Nat) : Int) - 1)) < (s66.1.len : Nat) ∧ Nn s66.1.p fun a89 =>
        St vw88 (a89.add ((IntKind.i64.wrap (((s66.1.len : Nat) : Int) - 1)).toNat * 1)) (Slc.v x87) fun vw90 =>
        I68 (s66.1, IntKind.i64.wrap (s66.2 + 1)) vw90) (LdT vw78 (⟨vw67.heap.size, 0, none⟩ : Addr) 0 LiA60 fun (x91 : TyA60) =>
        Nw vw78 (.cells #[.int .i64 (x91.1), .string x91.2.1, .int .i64 (x91.2.2.1), .int .i64 (x91.2.2.2.1), .int .i64 (x91.2.2.2.2.1), .int .i64 (x91.2.2.2.2.2.1), .int .i64 (x91.2.2.2.2.2.2.1), .string x91.2.2.2.2.2.2.2.1, .int .i64 (x91.2.2.2.2.2.2.2.2.1), .int .i64 (x91.2.2.2.2.2.2.2.2.2)] 61) fun vw92 =>
        Nw vw92 (.cells #[Slc.v ((⟨some ⟨vw78.heap.size, 0, none⟩, 1, 1⟩ : Slc))] 51) fun vw93 =>
        Rn Tryd.prog (Builtin.append_ #[49, 49] 49 #[Slc.v s66.1, Slc.v ((⟨some ⟨vw92.heap.size, 0, none⟩, 1, 1⟩ : Slc))]) vw93 Slc.v fun (x94 : Slc) vw95 =>
        I68 (x94, IntKind.i64.wrap (s66.2 + 1)) vw95)) (LdT vw72 (⟨vw67.heap.size, 0, none⟩ : Addr) 0 LiA60 fun (x96 : TyA60) =>
      Nw vw72 (.cells #[.int .i64 (x96.1), .string x96.2.1, .int .i64 (x96.2.2.1), .int .i64 (x96.2.2.2.1), .int .i64 (x96.2.2.2.2.1), .int .i64 (x96.2.2.2.2.2.1), .int .i64 (x96.2.2.2.2.2.2.1), .string x96.2.2.2.2.2.2.2.1, .int .i64 (x96.2.2.2.2.2.2.2.2.1), .int .i64 (x96.2.2.2.2.2.2.2.2.2)] 61) fun vw97 =>
      Nw vw97 (.cells #[Slc.v ((⟨some ⟨vw72.heap.size, 0, none⟩, 1, 1⟩ : Slc))] 51) fun vw98 =>
      Rn Tryd.prog (Builtin.append_ #[49, 49] 49 #[Slc.v s66.1, Slc.v ((⟨some ⟨vw97.heap.size, 0, none⟩, 1, 1⟩ : Slc))]) vw98 Slc.v fun (x99 : Slc) vw100 =>
      I68 (x99, IntKind.i64.wrap (s66.2 + 1)) vw100)) (Lp (σ := Int) (S24L1 s66 R) 0 vw67)
def S24L3 (l1 : Slc) (R : Slc → World → Prop) (I18 : (Slc × Int) → World → Prop) (s16 : Slc × Int) (vw17 : World) : Prop :=
  Br (decide (s16.2 < ((l1.len : Nat) : Int))) (0 ≤ s16.2 ∧ s16.2 < (l1.len : Nat) ∧ Nn l1.p fun a19 =>
    LdT vw17 (a19.add ((s16.2).toNat * 9)) 0 LiA31 fun (x20 : TyA31) =>
    Nw vw17 (.cells #[.int .i64 0, .string ((⟨#[]⟩ : ByteArray)), .int .i64 0, .int .i64 0, .int .i64 0, .int .i64 0, .int .i64 0, .string ((⟨#[]⟩ : ByteArray)), .int .i64 0] 32) fun vw21 =>
    StT (⟨vw17.heap.size, 0, none⟩ : Addr) 0 LiA31 x20 vw21 fun vw22 =>
    Ld vw22 ((⟨vw17.heap.size, 0, none⟩ : Addr).add 1) Value.string fun (x23 : ByteArray) =>
    Br (!(x23.toList == (⟨#[]⟩ : ByteArray).toList)) (LdT vw22 (⟨vw17.heap.size, 0, none⟩ : Addr) 0 LiA31 fun (x24 : TyA31) =>
      C31 x24 s16.2 vw22 fun r25 vw26 =>
        Nw vw26 (.cells #[.int .i64 (r25.1), .string r25.2.1, .int .i64 (r25.2.2.1), .int .i64 (r25.2.2.2.1), .int .i64 (r25.2.2.2.2.1), .int .i64 (r25.2.2.2.2.2.1), .int .i64 (r25.2.2.2.2.2.2.1), .string r25.2.2.2.2.2.2.2.1, .int .i64 (r25.2.2.2.2.2.2.2.2.1), .int .i64 (r25.2.2.2.2.2.2.2.2.2)] 61) fun vw27 =>
        Rn Tryd.prog (Builtin.append_ #[51, 51] 51 #[Slc.v s16.1, Slc.v ((⟨some ⟨vw26.heap.size, 0, none⟩, 1, 1⟩ : Slc))]) vw27 Slc.v fun (x28 : Slc) vw29 =>
        I18 (x28, IntKind.i64.wrap (s16.2 + 1)) vw29) (I18 (s16.1, IntKind.i64.wrap (s16.2 + 1)) vw22)) (C39 s16.1 (.func (.func 40) #[] #[]) vw17 fun vw30 =>
      Lp (σ := Slc × Int) (S24L2 s16 R) ((⟨none, 0, 0⟩ : Slc), 0) vw30)
/-- foliant/order.rows -/
def S24 (l1 : Slc) (w : World) (R : Slc → World → Prop) : Prop :=
  Lp (σ := Slc × Int) (S24L3 l1 R) ((⟨none, 0, 0⟩ : Slc), 0) w
def pl24 : Plan := (.seq (.reg .seq) (.seq (.reg .seq) (.seq (.seq (.reg .seq) (.block (.loop [(3, (.one .slc)), (15, (.one (.int .i64)))] [13, 14] (.seq (.reg .seq) (.seq (.cond .leaf .leaf) (.seq (.block (.seq (.reg .seq) (.seq (.reg .seq) (.cond (.reg .seq) .leaf)))) (.reg .seq))))))) (.seq (.reg .seq) (.seq (.reg .seq) (.seq (.seq (.reg .seq) (.block (.loop [(6, (.one .slc)), (34, (.one (.int .i64)))] [32, 33] (.seq (.reg .seq) (.seq (.cond .leaf .leaf) (.seq (.block (.seq (.reg .seq) (.seq (.seq (.reg .seq) (.seq (.reg .seq) (.cond (.seq (.reg .seq) (.seq (.reg .seq) (.cond (.seq (.reg (.held [10] (.take 0 (.take 1 (.take 2 (.take 3 (.take 4 (.take 5 (.take 6 (.take 7 (.take 8 (.eff 9 none (.eff 10 (some [12]) (.take 11 (.eff 12 (some []) .done))))))))))))))) .leaf) .leaf))) .leaf))) (.reg .seq)))) (.reg .seq))))))) (.seq (.seq (.reg .seq) (.block (.loop [(83, (.one (.int .i64)))] [6, 81, 82] (.seq (.reg .seq) (.seq (.cond .leaf .leaf) (.seq (.block (.seq (.reg .seq) (.reg .seq))) (.reg .seq))))))) (.seq (.reg .seq) .leaf))))))))
set_option maxRecDepth 100000 in
theorem T24 (l1 : Slc) (w : World) (R : Slc → World → Prop) (h : S24 l1 w R) : C24 l1 w R := by
  have e : fnT Tryd.prog ⟨FF, MAY, (fun _ _ => False)⟩ pl24 Tryd.f24 [Slc.v l1] w [(.one .slc)] (fun s w => R s w) = S24 l1 w R := by kernel_rfl
  exact (fn_calls okF okM Tryd.func24 (by kernel_rfl) (by kernel_rfl) (e.mpr h)).mono fun _ _ ⟨s, he, hR⟩ => ⟨s, he, hR⟩

def S25L1 (w : World) (vw2 : World) (x206 : Slc) (R : (TyA39) → Bool → World → Prop) (I209 : Int → World → Prop) (s207 : Int) (vw208 : World) : Prop :=
  Br (decide (s207 < ((x206.len : Nat) : Int))) (0 ≤ s207 ∧ s207 < (x206.len : Nat) ∧ Nn x206.p fun a210 =>
    LdT vw208 (a210.add ((s207).toNat * 5)) 0 LiA43 fun (x211 : TyA43) =>
    Nw vw208 (.cells #[.string ((⟨#[]⟩ : ByteArray)), .int .i64 0, .int .i64 0, .int .i64 0, .int .i64 0] 44) fun vw212 =>
    StT (⟨vw208.heap.size, 0, none⟩ : Addr) 0 LiA43 x211 vw212 fun vw213 =>
    Br (s207 == 0) (Ld vw213 ((⟨vw208.heap.size, 0, none⟩ : Addr).add 1) (Value.int .i64) fun (x214 : Int) =>
      Ld vw213 (((⟨vw208.heap.size, 0, none⟩ : Addr).add 1).add 1) (Value.int .i64) fun (x215 : Int) =>
      Ld vw213 (((⟨vw208.heap.size, 0, none⟩ : Addr).add 1).add 2) (Value.int .i64) fun (x216 : Int) =>
      Ld vw213 (((⟨vw208.heap.size, 0, none⟩ : Addr).add 1).add 3) (Value.int .i64) fun (x217 : Int) =>
      St vw213 ((⟨vw2.heap.size, 0, none⟩ : Addr).add 1) (.int .i64 x214) fun vw218 =>
      St vw218 (((⟨vw2.heap.size, 0, none⟩ : Addr).add 1).add 1) (.int .i64 x215) fun vw219 =>
      St vw219 (((⟨vw2.heap.size, 0, none⟩ : Addr).add 1).add 2) (.int .i64 x216) fun vw220 =>
      St vw220 (((⟨vw2.heap.size, 0, none⟩ : Addr).add 1).add 3) (.int .i64 x217) fun vw221 =>
      Ld vw221 ((⟨vw2.heap.size, 0, none⟩ : Addr).add 1) (Value.int .i64) fun (x222 : Int) =>
      Ld vw221 (((⟨vw2.heap.size, 0, none⟩ : Addr).add 1).add 1) (Value.int .i64) fun (x223 : Int) =>
      Ld vw221 (((⟨vw2.heap.size, 0, none⟩ : Addr).add 1).add 2) (Value.int .i64) fun (x224 : Int) =>
      Ld vw221 (((⟨vw2.heap.size, 0, none⟩ : Addr).add 1).add 3) (Value.int .i64) fun (x225 : Int) =>
      Ld vw221 ((⟨vw208.heap.size, 0, none⟩ : Addr).add 1) (Value.int .i64) fun (x226 : Int) =>
      Ld vw221 (((⟨vw208.heap.size, 0, none⟩ : Addr).add 1).add 1) (Value.int .i64) fun (x227 : Int) =>
      Ld vw221 (((⟨vw208.heap.size, 0, none⟩ : Addr).add 1).add 2) (Value.int .i64) fun (x228 : Int) =>
      Ld vw221 (((⟨vw208.heap.size, 0, none⟩ : Addr).add 1).add 3) (Value.int .i64) fun (x229 : Int) =>
      C48 (x222, x223, x224, x225) (x226, x227, x228, x229) vw221 fun r230 vw231 =>
        St vw231 ((⟨vw2.heap.size, 0, none⟩ : Addr).add 1) (.int .i64 (r230.1)) fun vw232 =>
        St vw232 (((⟨vw2.heap.size, 0, none⟩ : Addr).add 1).add 1) (.int .i64 (r230.2.1)) fun vw233 =>
        St vw233 (((⟨vw2.heap.size, 0, none⟩ : Addr).add 1).add 2) (.int .i64 (r230.2.2.1)) fun vw234 =>
        St vw234 (((⟨vw2.heap.size, 0, none⟩ : Addr).add 1).add 3) (.int .i64 (r230.2.2.2)) fun vw235 =>
        I209 (IntKind.i64.wrap (s207 + 1)) vw235) (Ld vw213 ((⟨vw2.heap.size, 0, none⟩ : Addr).add 1) (Value.int .i64) fun (x236 : Int) =>
      Ld vw213 (((⟨vw2.heap.size, 0, none⟩ : Addr).add 1).add 1) (Value.int .i64) fun (x237 : Int) =>
      Ld vw213 (((⟨vw2.heap.size, 0, none⟩ : Addr).add 1).add 2) (Value.int .i64) fun (x238 : Int) =>
      Ld vw213 (((⟨vw2.heap.size, 0, none⟩ : Addr).add 1).add 3) (Value.int .i64) fun (x239 : Int) =>
      Ld vw213 ((⟨vw208.heap.size, 0, none⟩ : Addr).add 1) (Value.int .i64) fun (x240 : Int) =>
      Ld vw213 (((⟨vw208.heap.size, 0, none⟩ : Addr).add 1).add 1) (Value.int .i64) fun (x241 : Int) =>
      Ld vw213 (((⟨vw208.heap.size, 0, none⟩ : Addr).add 1).add 2) (Value.int .i64) fun (x242 : Int) =>
      Ld vw213 (((⟨vw208.heap.size, 0, none⟩ : Addr).add 1).add 3) (Value.int .i64) fun (x243 : Int) =>
      C48 (x236, x237, x238, x239) (x240, x241, x242, x243) vw213 fun r244 vw245 =>
        St vw245 ((⟨vw2.heap.size, 0, none⟩ : Addr).add 1) (.int .i64 (r244.1)) fun vw246 =>
        St vw246 (((⟨vw2.heap.size, 0, none⟩ : Addr).add 1).add 1) (.int .i64 (r244.2.1)) fun vw247 =>
        St vw247 (((⟨vw2.heap.size, 0, none⟩ : Addr).add 1).add 2) (.int .i64 (r244.2.2.1)) fun vw248 =>
        St vw248 (((⟨vw2.heap.size, 0, none⟩ : Addr).add 1).add 3) (.int .i64 (r244.2.2.2)) fun vw249 =>
        I209 (IntKind.i64.wrap (s207 + 1)) vw249)) (∃ vS250 : World → Prop, vS250 vw208.drew ∧ LdST vS250 (⟨vw2.heap.size, 0, none⟩ : Addr) 0 LiA39 fun (x251 : TyA39) =>
    LdS vS250 (⟨vw2.heap.size, 0, none⟩ : Addr) Slc.v fun (x252 : Slc) =>
    StT (⟨w.heap.size, 0, none⟩ : Addr) 0 LiA39 x251 vw208.drew fun vw253 =>
    vS250 vw253 ∧ LdT vw253 (⟨w.heap.size, 0, none⟩ : Addr) 0 LiA39 fun (x254 : TyA39) =>
    R x254 (decide (((x252.len : Nat) : Int) > 0)) vw253)
def S25L2 (w : World) (row1 : Slc) (vw2 : World) (R : (TyA39) → Bool → World → Prop) (I97 : Int → World → Prop) (s95 : Int) (vw96 : World) : Prop :=
  Br (decide (s95 < ((row1.len : Nat) : Int))) (0 ≤ s95 ∧ s95 < (row1.len : Nat) ∧ Nn row1.p fun a98 =>
    LdT vw96 (a98.add ((s95).toNat * 10)) 0 LiA60 fun (x99 : TyA60) =>
    Nw vw96 (.cells #[.int .i64 0, .string ((⟨#[]⟩ : ByteArray)), .int .i64 0, .int .i64 0, .int .i64 0, .int .i64 0, .int .i64 0, .string ((⟨#[]⟩ : ByteArray)), .int .i64 0, .int .i64 0] 61) fun vw100 =>
    StT (⟨vw96.heap.size, 0, none⟩ : Addr) 0 LiA60 x99 vw100 fun vw101 =>
    LdT vw101 (⟨vw96.heap.size, 0, none⟩ : Addr) 0 LiA60 fun (x102 : TyA60) =>
    C46 x102 vw101 fun r103 vw104 =>
      Br r103 (I97 (IntKind.i64.wrap (s95 + 1)) vw104) (Br (decide (s95 > 0)) (0 ≤ (IntKind.i64.wrap (s95 - 1)) ∧ (IntKind.i64.wrap (s95 - 1)) < (row1.len : Nat) ∧ Nn row1.p fun a105 =>
          LdT vw104.drew (a105.add ((IntKind.i64.wrap (s95 - 1)).toNat * 10)) 0 LiA60 fun (x106 : TyA60) =>
          LdT vw104.drew (⟨vw96.heap.size, 0, none⟩ : Addr) 0 LiA60 fun (x107 : TyA60) =>
          C47 x106 x107 vw104.drew fun r108 vw109 =>
            Br r108 (Ld vw109 (⟨vw2.heap.size, 0, none⟩ : Addr) Slc.v fun (x110 : Slc) =>
              Ld vw109 (⟨vw2.heap.size, 0, none⟩ : Addr) Slc.v fun (x111 : Slc) =>
              0 ≤ (IntKind.i64.wrap (((x111.len : Nat) : Int) - 1)) ∧ (IntKind.i64.wrap (((x111.len : Nat) : Int) - 1)) < (x110.len : Nat) ∧ Nn x110.p fun a112 =>
              Nn (some (a112.add ((IntKind.i64.wrap (((x111.len : Nat) : Int) - 1)).toNat * 5))) fun a113 =>
              Ld vw109.drew a113 Value.string fun (x114 : ByteArray) =>
              Ld vw109.drew ((⟨vw96.heap.size, 0, none⟩ : Addr).add 1) Value.string fun (x115 : ByteArray) =>
              (((x114).size + (x115).size : Nat) : Int) ≤ IntKind.i64.max ∧ Nn (some (a112.add ((IntKind.i64.wrap (((x111.len : Nat) : Int) - 1)).toNat * 5))) fun a116 =>
              St vw109.drew a116 (.string (x114 ++ x115)) fun vw117 =>
              ∃ vS118 : World → Prop, vS118 vw117.drew ∧ Nn (some (a112.add ((IntKind.i64.wrap (((x111.len : Nat) : Int) - 1)).toNat * 5))) fun a119 =>
              LdS vS118 (a119.add 1) (Value.int .i64) fun (x120 : Int) =>
              LdS vS118 ((a119.add 1).add 1) (Value.int .i64) fun (x121 : Int) =>
              LdS vS118 ((a119.add 1).add 2) (Value.int .i64) fun (x122 : Int) =>
              LdS vS118 ((a119.add 1).add 3) (Value.int .i64) fun (x123 : Int) =>
              LdST vS118 (⟨vw96.heap.size, 0, none⟩ : Addr) 0 LiA60 fun (x124 : TyA60) =>
              C32 x124 vw117.drew fun r125 vw126 =>
                vS118 vw126 ∧ C48 (x120, x121, x122, x123) (r125.1, r125.2.1, r125.2.2.1, r125.2.2.2) vw126 fun r127 vw128 =>
                  Nn (some (a112.add ((IntKind.i64.wrap (((x111.len : Nat) : Int) - 1)).toNat * 5))) fun a129 =>
                  St vw128 (a129.add 1) (.int .i64 (r127.1)) fun vw130 =>
                  St vw130 ((a129.add 1).add 1) (.int .i64 (r127.2.1)) fun vw131 =>
                  St vw131 ((a129.add 1).add 2) (.int .i64 (r127.2.2.1)) fun vw132 =>
                  St vw132 ((a129.add 1).add 3) (.int .i64 (r127.2.2.2)) fun vw133 =>
                  I97 (IntKind.i64.wrap (s95 + 1)) vw133) (∃ vS134 : World → Prop, vS134 vw109.drew ∧ LdS vS134 (⟨vw2.heap.size, 0, none⟩ : Addr) Slc.v fun (x135 : Slc) =>
              LdS vS134 ((⟨vw96.heap.size, 0, none⟩ : Addr).add 1) Value.string fun (x136 : ByteArray) =>
              LdST vS134 (⟨vw96.heap.size, 0, none⟩ : Addr) 0 LiA60 fun (x137 : TyA60) =>
              C32 x137 vw109.drew fun r138 vw139 =>
                vS134 vw139 ∧ vS134 vw139 ∧ Nw vw139 (.cells #[.string x136, .int .i64 (r138.1), .int .i64 (r138.2.1), .int .i64 (r138.2.2.1), .int .i64 (r138.2.2.2)] 44) fun vw140 =>
                vS134 vw140 ∧ Rn Tryd.prog (Builtin.append_ #[35, 35] 35 #[Slc.v x135, Slc.v ((⟨some ⟨vw139.heap.size, 0, none⟩, 1, 1⟩ : Slc))]) vw140 Slc.v fun (x141 : Slc) vw142 =>
                St vw142 (⟨vw2.heap.size, 0, none⟩ : Addr) (Slc.v x141) fun vw143 =>
                I97 (IntKind.i64.wrap (s95 + 1)) vw143)) (∃ vS144 : World → Prop, vS144 vw104.drew.drew ∧ LdS vS144 (⟨vw2.heap.size, 0, none⟩ : Addr) Slc.v fun (x145 : Slc) =>
          LdS vS144 ((⟨vw96.heap.size, 0, none⟩ : Addr).add 1) Value.string fun (x146 : ByteArray) =>
          LdST vS144 (⟨vw96.heap.size, 0, none⟩ : Addr) 0 LiA60 fun (x147 : TyA60) =>
          C32 x147 vw104.drew.drew fun r148 vw149 =>
            vS144 vw149 ∧ vS144 vw149 ∧ Nw vw149 (.cells #[.string x146, .int .i64 (r148.1), .int .i64 (r148.2.1), .int .i64 (r148.2.2.1), .int .i64 (r148.2.2.2)] 44) fun vw150 =>
            vS144 vw150 ∧ Rn Tryd.prog (Builtin.append_ #[35, 35] 35 #[Slc.v x145, Slc.v ((⟨some ⟨vw149.heap.size, 0, none⟩, 1, 1⟩ : Slc))]) vw150 Slc.v fun (x151 : Slc) vw152 =>
            St vw152 (⟨vw2.heap.size, 0, none⟩ : Addr) (Slc.v x151) fun vw153 =>
            I97 (IntKind.i64.wrap (s95 + 1)) vw153))) (Ld vw96 (⟨vw2.heap.size, 0, none⟩ : Addr) Slc.v fun (x206 : Slc) =>
    Lp (σ := Int) (S25L1 w vw2 x206 R) 0 vw96)
/-- foliant/order.line -/
def S25 (row1 : Slc) (w : World) (R : (TyA39) → Bool → World → Prop) : Prop :=
  Nw w (.cells #[Slc.v ((⟨none, 0, 0⟩ : Slc)), .int .i64 0, .int .i64 0, .int .i64 0, .int .i64 0] 40) fun vw2 =>
  Nw vw2 (.cells #[Slc.v ((⟨none, 0, 0⟩ : Slc)), .int .i64 0, .int .i64 0, .int .i64 0, .int .i64 0] 40) fun vw3 =>
  Lp (σ := Int) (S25L2 w row1 vw2 R) 0 vw3
def pl25 : Plan := (.seq (.reg .seq) (.seq (.reg .seq) (.seq (.seq (.reg .seq) (.block (.loop [(12, (.one (.int .i64)))] [0, 2, 4, 10, 11] (.seq (.reg .seq) (.seq (.cond .leaf .leaf) (.seq (.block (.seq (.reg .seq) (.seq (.seq (.reg .seq) (.cond .leaf .leaf)) (.seq (.seq (.reg (.tail 9)) (.cond (.seq (.reg .seq) (.seq (.reg (.tail 10)) (.seq (.reg (.held [7] (.take 0 (.take 1 (.take 2 (.take 3 (.take 4 (.take 5 (.eff 6 none (.eff 7 (some [10]) (.take 8 (.take 9 (.eff 10 (some []) .done))))))))))))) .leaf))) .leaf)) (.reg (.held [9] (.take 0 (.take 1 (.take 2 (.take 3 (.take 4 (.take 5 (.eff 6 none (.eff 7 none (.eff 8 none (.eff 9 (some [11]) (.take 10 (.eff 11 (some []) .done)))))))))))))))))) (.reg .seq))))))) (.seq (.seq (.reg .seq) (.block (.loop [(72, (.one (.int .i64)))] [2, 4, 70, 71] (.seq (.reg .seq) (.seq (.cond .leaf .leaf) (.seq (.block (.seq (.reg .seq) (.seq (.seq (.reg .seq) (.cond (.reg .seq) .leaf)) (.reg .seq)))) (.reg .seq))))))) (.seq (.reg (.held [] (.take 0 (.take 1 (.take 2 (.take 3 (.take 4 (.eff 5 none (.take 6 .done))))))))) .leaf)))))
set_option maxRecDepth 100000 in
theorem T25 (row1 : Slc) (w : World) (R : (TyA39) → Bool → World → Prop) (h : S25 row1 w R) : C25 row1 w R := by
  have e : fnT Tryd.prog ⟨FF, MAY, (fun _ _ => False)⟩ pl25 Tryd.f25 [Slc.v row1] w [(.agg [.slc, (.int .i64), (.int .i64), (.int .i64), (.int .i64)]), (.one .bool)] (fun s w => R s.1 s.2 w) = S25 row1 w R := by kernel_rfl
  exact (fn_calls okF okM Tryd.func25 (by kernel_rfl) (by kernel_rfl) (e.mpr h)).mono fun _ _ ⟨s, he, hR⟩ => ⟨s.1, s.2, he, hR⟩

def S9L1 (r2 : Slc) (R : Slc → World → Prop) (I6 : (Slc × Int) → World → Prop) (s4 : Slc × Int) (vw5 : World) : Prop :=
  Br (decide (s4.2 < ((r2.len : Nat) : Int))) (0 ≤ s4.2 ∧ s4.2 < (r2.len : Nat) ∧ Nn r2.p fun a7 =>
    Ld vw5 (a7.add ((s4.2).toNat * 1)) Slc.v fun (x8 : Slc) =>
    C25 x8 vw5 fun r9 r10 vw11 =>
      Nw vw11 (.cells #[Slc.v ((⟨none, 0, 0⟩ : Slc)), .int .i64 0, .int .i64 0, .int .i64 0, .int .i64 0] 40) fun vw12 =>
      StT (⟨vw11.heap.size, 0, none⟩ : Addr) 0 LiA39 r9 vw12 fun vw13 =>
      Br r10 (LdT vw13 (⟨vw11.heap.size, 0, none⟩ : Addr) 0 LiA39 fun (x14 : TyA39) =>
        Nw vw13 (.cells #[Slc.v x14.1, .int .i64 (x14.2.1), .int .i64 (x14.2.2.1), .int .i64 (x14.2.2.2.1), .int .i64 (x14.2.2.2.2)] 40) fun vw15 =>
        Rn Tryd.prog (Builtin.append_ #[24, 24] 24 #[Slc.v s4.1, Slc.v ((⟨some ⟨vw13.heap.size, 0, none⟩, 1, 1⟩ : Slc))]) vw15 Slc.v fun (x16 : Slc) vw17 =>
        I6 (x16, IntKind.i64.wrap (s4.2 + 1)) vw17) (I6 (s4.1, IntKind.i64.wrap (s4.2 + 1)) vw13)) (R s4.1 vw5)
/-- foliant/order.Lines -/
def S9 (l1 : Slc) (w : World) (R : Slc → World → Prop) : Prop :=
  C24 l1 w fun r2 vw3 =>
    Lp (σ := Slc × Int) (S9L1 r2 R) ((⟨none, 0, 0⟩ : Slc), 0) vw3
def pl9 : Plan := (.seq (.reg .seq) (.seq (.reg .seq) (.seq (.seq (.reg .seq) (.block (.loop [(3, (.one .slc)), (11, (.one (.int .i64)))] [9, 10] (.seq (.reg .seq) (.seq (.cond .leaf .leaf) (.seq (.block (.seq (.reg .seq) (.seq (.reg .seq) (.seq (.reg .seq) (.cond (.reg .seq) .leaf))))) (.reg .seq))))))) (.seq (.reg .seq) .leaf))))
set_option maxRecDepth 100000 in
theorem T9 (l1 : Slc) (w : World) (R : Slc → World → Prop) (h : S9 l1 w R) : C9 l1 w R := by
  have e : fnT Tryd.prog ⟨FF, MAY, (fun _ _ => False)⟩ pl9 Tryd.f9 [Slc.v l1] w [(.one .slc)] (fun s w => R s w) = S9 l1 w R := by kernel_rfl
  exact (fn_calls okF okM Tryd.func9 (by kernel_rfl) (by kernel_rfl) (e.mpr h)).mono fun _ _ ⟨s, he, hR⟩ => ⟨s, he, hR⟩

def S15L1 (r2 : Slc) (R : Slc → World → Prop) (I6 : (Slc × Int) → World → Prop) (s4 : Slc × Int) (vw5 : World) : Prop :=
  Br (decide (s4.2 < ((r2.len : Nat) : Int))) (0 ≤ s4.2 ∧ s4.2 < (r2.len : Nat) ∧ Nn r2.p fun a7 =>
    LdT vw5 (a7.add ((s4.2).toNat * 5)) 0 LiA39 fun (x8 : TyA39) =>
    Nw vw5 (.cells #[Slc.v ((⟨none, 0, 0⟩ : Slc)), .int .i64 0, .int .i64 0, .int .i64 0, .int .i64 0] 40) fun vw9 =>
    StT (⟨vw5.heap.size, 0, none⟩ : Addr) 0 LiA39 x8 vw9 fun vw10 =>
    Ld vw10 (⟨vw5.heap.size, 0, none⟩ : Addr) Slc.v fun (x11 : Slc) =>
    Rn Tryd.prog (Builtin.append_ #[35, 35] 35 #[Slc.v s4.1, Slc.v x11]) vw10 Slc.v fun (x12 : Slc) vw13 =>
    I6 (x12, IntKind.i64.wrap (s4.2 + 1)) vw13) (R s4.1 vw5)
/-- foliant/order.Words -/
def S15 (l1 : Slc) (w : World) (R : Slc → World → Prop) : Prop :=
  C9 l1 w fun r2 vw3 =>
    Lp (σ := Slc × Int) (S15L1 r2 R) ((⟨none, 0, 0⟩ : Slc), 0) vw3
def pl15 : Plan := (.seq (.reg .seq) (.seq (.reg .seq) (.seq (.seq (.reg .seq) (.block (.loop [(3, (.one .slc)), (9, (.one (.int .i64)))] [7, 8] (.seq (.reg .seq) (.seq (.cond .leaf .leaf) (.seq (.block (.seq (.reg .seq) (.reg .seq))) (.reg .seq))))))) (.seq (.reg .seq) .leaf))))
set_option maxRecDepth 100000 in
theorem T15 (l1 : Slc) (w : World) (R : Slc → World → Prop) (h : S15 l1 w R) : C15 l1 w R := by
  have e : fnT Tryd.prog ⟨FF, MAY, (fun _ _ => False)⟩ pl15 Tryd.f15 [Slc.v l1] w [(.one .slc)] (fun s w => R s w) = S15 l1 w R := by kernel_rfl
  exact (fn_calls okF okM Tryd.func15 (by kernel_rfl) (by kernel_rfl) (e.mpr h)).mono fun _ _ ⟨s, he, hR⟩ => ⟨s, he, hR⟩

end Go.Proofs.YtodhdkbhmkinjaaDoor
