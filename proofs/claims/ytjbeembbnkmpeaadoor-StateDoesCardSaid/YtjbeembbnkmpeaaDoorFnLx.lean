/- The formulas of 4 functions of the program, written by program (gen.py); the kernel checks each. No condition. -/
import Derived.Test.YtjbeembbnkmpeaaDoorFn
import Derived.Test.YtjbeembbnkmpeaaDoorFnFix
import Derived.Test.YtjbeembbnkmpeaaDoorFnMat
import Derived.Test.YtjbeembbnkmpeaaDoorFnObj
import Derived.Test.YtjbeembbnkmpeaaDoorFnOps
import Derived.Test.YtjbeembbnkmpeaaDoorFnState
import Derived.Test.YtjbeembbnkmpeaaDoorFnLw
namespace Go.Proofs.YtjbeembbnkmpeaaDoor
open Sh
set_option linter.unusedVariables false
set_option maxRecDepth 100000

def C46 (l1 : Slc) (w : World) (R : Bool → World → Prop) : Prop :=
  Calls Tryd.prog 46 #[Slc.v l1] w fun e w' => ∃ r0 : Bool, e = .returned (.bool r0) ∧ R r0 w'
theorem C46.mono {l1 : Slc} {w : World} {R R' : Bool → World → Prop} (h : C46 l1 w R) (hr : ∀ r0 w', R r0 w' → R' r0 w') : C46 l1 w R' :=
  Calls.mono h fun _ _ ⟨r0, he, hR⟩ => ⟨r0, he, hr _ _ hR⟩
def C11 (m1 : Int × Int × Int × Int × Int × Int) (l2 : Slc) (w : World) (R : Bool → World → Prop) : Prop :=
  Calls Tryd.prog 11 #[.agg #[.int .i64 (m1.1), .int .i64 (m1.2.1), .int .i64 (m1.2.2.1), .int .i64 (m1.2.2.2.1), .int .i64 (m1.2.2.2.2.1), .int .i64 (m1.2.2.2.2.2)], Slc.v l2] w fun e w' => ∃ r0 : Bool, e = .returned (.bool r0) ∧ R r0 w'
theorem C11.mono {m1 : Int × Int × Int × Int × Int × Int} {l2 : Slc} {w : World} {R R' : Bool → World → Prop} (h : C11 m1 l2 w R) (hr : ∀ r0 w', R r0 w' → R' r0 w') : C11 m1 l2 w R' :=
  Calls.mono h fun _ _ ⟨r0, he, hR⟩ => ⟨r0, he, hr _ _ hR⟩
def C10 (m1 : Int × Int × Int × Int × Int × Int) (ahead2 : Slc) (l3 : Slc) (w : World) (R : Bool → World → Prop) : Prop :=
  Calls Tryd.prog 10 #[.agg #[.int .i64 (m1.1), .int .i64 (m1.2.1), .int .i64 (m1.2.2.1), .int .i64 (m1.2.2.2.1), .int .i64 (m1.2.2.2.2.1), .int .i64 (m1.2.2.2.2.2)], Slc.v ahead2, Slc.v l3] w fun e w' => ∃ r0 : Bool, e = .returned (.bool r0) ∧ R r0 w'
theorem C10.mono {m1 : Int × Int × Int × Int × Int × Int} {ahead2 : Slc} {l3 : Slc} {w : World} {R R' : Bool → World → Prop} (h : C10 m1 ahead2 l3 w R) (hr : ∀ r0 w', R r0 w' → R' r0 w') : C10 m1 ahead2 l3 w R' :=
  Calls.mono h fun _ _ ⟨r0, he, hR⟩ => ⟨r0, he, hr _ _ hR⟩
def C9 (m1 : Int × Int × Int × Int × Int × Int) (l2 : Slc) (w : World) (R : Bool → World → Prop) : Prop :=
  Calls Tryd.prog 9 #[.agg #[.int .i64 (m1.1), .int .i64 (m1.2.1), .int .i64 (m1.2.2.1), .int .i64 (m1.2.2.2.1), .int .i64 (m1.2.2.2.2.1), .int .i64 (m1.2.2.2.2.2)], Slc.v l2] w fun e w' => ∃ r0 : Bool, e = .returned (.bool r0) ∧ R r0 w'
theorem C9.mono {m1 : Int × Int × Int × Int × Int × Int} {l2 : Slc} {w : World} {R R' : Bool → World → Prop} (h : C9 m1 l2 w R) (hr : ∀ r0 w', R r0 w' → R' r0 w') : C9 m1 l2 w R' :=
  Calls.mono h fun _ _ ⟨r0, he, hR⟩ => ⟨r0, he, hr _ _ hR⟩

def S46L1 (l1 : Slc) (s28 : Int × Int) (I30 : (Int × Int) → World → Prop) (I38 : (Int × Int) → World → Prop) (s36 : Int × Int) (vw37 : World) : Prop :=
  0 ≤ s28.2 ∧ s28.2 < (l1.len : Nat) ∧ Nn l1.p fun a39 =>
  Ld vw37 ((a39.add ((s28.2).toNat * 3)).add 1) Slc.v fun (x40 : Slc) =>
  Br (decide (s36.2 < ((x40.len : Nat) : Int))) (0 ≤ s28.2 ∧ s28.2 < (l1.len : Nat) ∧ Nn l1.p fun a41 =>
    Ld vw37 ((a41.add ((s28.2).toNat * 3)).add 1) Slc.v fun (x42 : Slc) =>
    0 ≤ s36.2 ∧ s36.2 < (x42.len : Nat) ∧ Nn x42.p fun a43 =>
    Ld vw37 (a43.add ((s36.2).toNat * 6)) (Value.int .i64) fun (x44 : Int) =>
    Ld vw37 ((a43.add ((s36.2).toNat * 6)).add 1) (Value.int .i64) fun (x45 : Int) =>
    Ld vw37 ((a43.add ((s36.2).toNat * 6)).add 2) (Value.int .i64) fun (x46 : Int) =>
    Ld vw37 ((a43.add ((s36.2).toNat * 6)).add 3) Value.string fun (x47 : ByteArray) =>
    Ld vw37 ((a43.add ((s36.2).toNat * 6)).add 4) Slc.v fun (x48 : Slc) =>
    Ld vw37 ((a43.add ((s36.2).toNat * 6)).add 5) Slc.v fun (x49 : Slc) =>
    C95 (x44, x45, x46, x47, x48, x49) vw37 fun r50 vw51 =>
      I38 (IntKind.i64.wrap (s36.1 + r50), IntKind.i64.wrap (s36.2 + 1)) vw51) (I30 (s36.1, IntKind.i64.wrap (s28.2 + 1)) vw37)
def S46L2 (l1 : Slc) (R : Bool → World → Prop) (I30 : (Int × Int) → World → Prop) (s28 : Int × Int) (vw29 : World) : Prop :=
  Br (decide (s28.2 < ((l1.len : Nat) : Int))) (0 ≤ s28.2 ∧ s28.2 < (l1.len : Nat) ∧ Nn l1.p fun a31 =>
    Ld vw29.drew (a31.add ((s28.2).toNat * 3)) Value.string fun (x32 : ByteArray) =>
    0 ≤ s28.2 ∧ s28.2 < (l1.len : Nat) ∧ Nn l1.p fun a33 =>
    Ld vw29.drew ((a33.add ((s28.2).toNat * 3)).add 2) Value.string fun (x34 : ByteArray) =>
    Lt (IntKind.i64.wrap (s28.1 + (IntKind.i64.wrap ((((x32).size : Nat) : Int) + (((x34).size : Nat) : Int))))) fun (x35 : Int) =>
    Lp (σ := Int × Int) (S46L1 l1 s28 I30) (x35, 0) vw29.drew) (Br (decide (((l1.len : Nat) : Int) ≤ 80)) (R (decide (s28.1 ≤ 4000)) vw29) (R false vw29))
/-- foliant/foliantlaw44.small -/
def S46 (l1 : Slc) (w : World) (R : Bool → World → Prop) : Prop :=
  Lp (σ := Int × Int) (S46L2 l1 R) (0, 0) w
def pl46 : Plan := (.seq (.reg .seq) (.seq (.reg .seq) (.seq (.seq (.reg .seq) (.block (.loop [(3, (.one (.int .i64))), (4, (.one (.int .i64)))] [0] (.seq (.seq (.reg .seq) (.cond .leaf .leaf)) (.seq (.block (.seq (.reg .still) (.seq (.reg .seq) (.block (.loop [(3, (.one (.int .i64))), (5, (.one (.int .i64)))] [0, 4] (.seq (.seq (.reg .seq) (.cond .leaf .leaf)) (.seq (.block (.reg .seq)) (.reg .seq)))))))) (.reg .seq)))))) (.seq (.reg .seq) .leaf))))
set_option maxRecDepth 100000 in
theorem T46 (l1 : Slc) (w : World) (R : Bool → World → Prop) (h : S46 l1 w R) : C46 l1 w R := by
  have e : fnT Tryd.prog ⟨FF, MAY, (fun _ _ => False)⟩ pl46 Tryd.f46 [Slc.v l1] w [(.one .bool)] (fun s w => R s w) = S46 l1 w R := by kernel_rfl
  exact (fn_calls okF okM Tryd.func46 (by kernel_rfl) (by kernel_rfl) (e.mpr h)).mono fun _ _ ⟨s, he, hR⟩ => ⟨s, he, hR⟩

def S11L1 (vw92 : World) (R : Bool → World → Prop) (I97 : Int → World → Prop) (s95 : Int) (vw96 : World) : Prop :=
  Ld vw96 ((⟨vw92.heap.size, 0, none⟩ : Addr).add 10) Slc.v fun (x99 : Slc) =>
  Br (decide (s95 < ((x99.len : Nat) : Int))) (Ld vw96 ((⟨vw92.heap.size, 0, none⟩ : Addr).add 10) Slc.v fun (x100 : Slc) =>
    0 ≤ s95 ∧ s95 < (x100.len : Nat) ∧ Nn x100.p fun a101 =>
    Ld vw96 (a101.add ((s95).toNat * 1)) (Value.int .i64) fun (x102 : Int) =>
    Br (decide (x102 < 0)) (R false vw96) (I97 (IntKind.i64.wrap (s95 + 1)) vw96)) (C47 vw96 fun r103 vw104 =>
      R r103 vw104)
def S11L2 (r18 : Option Addr) (vw73 : World) (R : Bool → World → Prop) (I86 : Int → World → Prop) (s84 : Int) (vw85 : World) : Prop :=
  Ld vw85 ((⟨vw73.heap.size, 0, none⟩ : Addr).add 10) Slc.v fun (x87 : Slc) =>
  Br (decide (s84 < ((x87.len : Nat) : Int))) (Ld vw85 ((⟨vw73.heap.size, 0, none⟩ : Addr).add 10) Slc.v fun (x88 : Slc) =>
    0 ≤ s84 ∧ s84 < (x88.len : Nat) ∧ Nn x88.p fun a89 =>
    St vw85 (a89.add ((s84).toNat * 1)) (.int .i64 (-1)) fun vw90 =>
    I86 (IntKind.i64.wrap (s84 + 1)) vw90) (C52 r18 vw85 fun r91 vw92 =>
      Nw vw92 (.cells #[.int .i64 0, .int .i64 0, .int .i64 0, .int .i64 0, .int .i64 0, .int .i64 0, .int .i64 0, .int .i64 0, .int .i64 0, .int .i64 0, Slc.v ((⟨none, 0, 0⟩ : Slc)), .int .i64 0, .int .i64 0, .int .i64 0, .int .i64 0, .int .i64 0, .int .i64 0, .int .i64 0, .int .i64 0, .int .i64 0, .int .i64 0, .int .i64 0, .int .i64 0, .int .i64 0, .int .i64 0, .int .i64 0, .int .i64 0, .int .i64 0, .string ((⟨#[]⟩ : ByteArray)), .int .i64 0] 30) fun vw93 =>
      StT (⟨vw92.heap.size, 0, none⟩ : Addr) 0 LiA29 r91 vw93 fun vw94 =>
      Lp (σ := Int) (S11L1 vw92 R) 0 vw94)
def S11L3 (l2 : Slc) (r18 : Option Addr) (R : Bool → World → Prop) (I50 : Int → World → Prop) (s48 : Int) (vw49 : World) : Prop :=
  Br (decide (s48 < ((l2.len : Nat) : Int))) (C52 r18 vw49 fun r51 vw52 =>
      C55 r18 vw52 fun r53 vw54 =>
        Nw vw54 (.cells #[.int .i64 0, .int .i64 0, .int .i64 0, .int .i64 0, .int .i64 0, .int .i64 0, .int .i64 0, .int .i64 0, .int .i64 0, .int .i64 0, Slc.v ((⟨none, 0, 0⟩ : Slc)), .int .i64 0, .int .i64 0, .int .i64 0, .int .i64 0, .int .i64 0, .int .i64 0, .int .i64 0, .int .i64 0, .int .i64 0, .int .i64 0, .int .i64 0, .int .i64 0, .int .i64 0, .int .i64 0, .int .i64 0, .int .i64 0, .int .i64 0, .string ((⟨#[]⟩ : ByteArray)), .int .i64 0] 30) fun vw55 =>
        StT (⟨vw54.heap.size, 0, none⟩ : Addr) 0 LiA29 r51 vw55 fun vw56 =>
        ∃ vS57 : World → Prop, vS57 vw56.drew ∧ 0 ≤ s48 ∧ s48 < (l2.len : Nat) ∧ Nn l2.p fun a58 =>
        LdS vS57 (a58.add ((s48).toNat * 3)) Value.string fun (x59 : ByteArray) =>
        LdS vS57 ((a58.add ((s48).toNat * 3)).add 1) Slc.v fun (x60 : Slc) =>
        LdS vS57 ((a58.add ((s48).toNat * 3)).add 2) Value.string fun (x61 : ByteArray) =>
        C53 r18 (x59, x60, x61) vw56.drew fun r62 vw63 =>
          ∃ vS64 : World → Prop, vS64 vw63 ∧ Br (r62 != 0) (LdST vS64 (⟨vw54.heap.size, 0, none⟩ : Addr) 0 LiA29 fun (x65 : TyA29) =>
            C52 r18 vw63 fun r66 vw67 =>
              vS64 vw67 ∧ C50 r66 x65 vw67 fun r68 vw69 =>
                Br (!r68) (R false vw69) (C55 r18 vw69 fun r70 vw71 =>
                    Br (r70 != r53) (R false vw71) (I50 (IntKind.i64.wrap (s48 + 1)) vw71))) (I50 (IntKind.i64.wrap (s48 + 1)) vw63)) (C52 r18 vw49 fun r72 vw73 =>
      Nw vw73 (.cells #[.int .i64 0, .int .i64 0, .int .i64 0, .int .i64 0, .int .i64 0, .int .i64 0, .int .i64 0, .int .i64 0, .int .i64 0, .int .i64 0, Slc.v ((⟨none, 0, 0⟩ : Slc)), .int .i64 0, .int .i64 0, .int .i64 0, .int .i64 0, .int .i64 0, .int .i64 0, .int .i64 0, .int .i64 0, .int .i64 0, .int .i64 0, .int .i64 0, .int .i64 0, .int .i64 0, .int .i64 0, .int .i64 0, .int .i64 0, .int .i64 0, .string ((⟨#[]⟩ : ByteArray)), .int .i64 0] 30) fun vw74 =>
      StT (⟨vw73.heap.size, 0, none⟩ : Addr) 0 LiA29 r72 vw74 fun vw75 =>
      Lp (σ := Int) (S11L2 r18 vw73 R) 0 vw75)
/-- foliant/foliantlaw44.StateStays -/
def S11 (m1 : Int × Int × Int × Int × Int × Int) (l2 : Slc) (w : World) (R : Bool → World → Prop) : Prop :=
  Nw w (.cells #[.int .i64 (m1.1), .int .i64 (m1.2.1), .int .i64 (m1.2.2.1), .int .i64 (m1.2.2.2.1), .int .i64 (m1.2.2.2.2.1), .int .i64 (m1.2.2.2.2.2)] 23) fun vw3 =>
  C46 l2 vw3 fun r8 vw9 =>
    Br (!r8) (C47 vw9 fun r10 vw11 =>
        R r10 vw11) (Ld vw9 (⟨w.heap.size, 0, none⟩ : Addr) (Value.int .i64) fun (x12 : Int) =>
      Ld vw9 ((⟨w.heap.size, 0, none⟩ : Addr).add 1) (Value.int .i64) fun (x13 : Int) =>
      Ld vw9 ((⟨w.heap.size, 0, none⟩ : Addr).add 2) (Value.int .i64) fun (x14 : Int) =>
      Ld vw9 ((⟨w.heap.size, 0, none⟩ : Addr).add 3) (Value.int .i64) fun (x15 : Int) =>
      Ld vw9 ((⟨w.heap.size, 0, none⟩ : Addr).add 4) (Value.int .i64) fun (x16 : Int) =>
      Ld vw9 ((⟨w.heap.size, 0, none⟩ : Addr).add 5) (Value.int .i64) fun (x17 : Int) =>
      C48 (x12, x13, x14, x15, x16, x17) vw9 fun r18 vw19 =>
        Br r18.isNone (C47 vw19 fun r22 vw23 =>
            R r22 vw23) (Lp (σ := Int) (S11L3 l2 r18 R) 0 vw19))
def pl11 : Plan := (.seq (.reg .seq) (.seq (.seq (.reg .seq) (.cond (.seq (.reg .seq) .leaf) .leaf)) (.seq (.reg .seq) (.seq (.seq (.reg .seq) (.cond (.seq (.reg .seq) .leaf) .leaf)) (.seq (.seq (.reg .seq) (.block (.loop [(6, (.one (.int .i64)))] [1, 5] (.seq (.seq (.reg .seq) (.cond .leaf .leaf)) (.seq (.block (.seq (.reg .seq) (.seq (.reg (.held [5] (.take 0 (.take 1 (.take 2 (.take 3 (.take 4 (.eff 5 (some [11]) (.take 6 (.take 7 (.take 8 (.take 10 (.eff 9 none (.eff 11 (some [15]) (.take 12 (.take 13 (.take 14 (.take 16 (.eff 15 (some []) (.take 17 (.take 18 (.take 19 .done)))))))))))))))))))))) (.cond (.seq (.reg .seq) .leaf) .leaf)))) (.reg .seq)))))) (.seq (.reg .seq) (.seq (.seq (.reg .seq) (.block (.loop [(10, (.one (.int .i64)))] [5, 9] (.seq (.seq (.reg .seq) (.cond .leaf .leaf)) (.seq (.block (.reg .seq)) (.reg .seq)))))) (.seq (.reg .seq) (.seq (.seq (.reg .seq) (.block (.loop [(12, (.one (.int .i64)))] [11] (.seq (.seq (.reg .seq) (.cond .leaf .leaf)) (.seq (.block (.seq (.reg .seq) (.cond (.seq (.reg .seq) .leaf) .leaf))) (.reg .seq)))))) (.seq (.reg .seq) .leaf))))))))))
set_option maxRecDepth 100000 in
theorem T11 (m1 : Int × Int × Int × Int × Int × Int) (l2 : Slc) (w : World) (R : Bool → World → Prop) (h : S11 m1 l2 w R) : C11 (m1.1, m1.2.1, m1.2.2.1, m1.2.2.2.1, m1.2.2.2.2.1, m1.2.2.2.2.2) l2 w R := by
  have e : fnT Tryd.prog ⟨FF, MAY, (fun _ _ => False)⟩ pl11 Tryd.f11 [.agg #[.int .i64 (m1.1), .int .i64 (m1.2.1), .int .i64 (m1.2.2.1), .int .i64 (m1.2.2.2.1), .int .i64 (m1.2.2.2.2.1), .int .i64 (m1.2.2.2.2.2)], Slc.v l2] w [(.one .bool)] (fun s w => R s w) = S11 m1 l2 w R := by kernel_rfl
  exact (fn_calls okF okM Tryd.func11 (by kernel_rfl) (by kernel_rfl) (e.mpr h)).mono fun _ _ ⟨s, he, hR⟩ => ⟨s, he, hR⟩

def S10L1 (r27 : Option Addr) (r53 : Int) (vw54 : World) (R : Bool → World → Prop) (I120 : Int → World → Prop) (s118 : Int) (vw119 : World) : Prop :=
  Br (decide (s118 ≤ 28)) (C55 r27 vw119 fun r121 vw122 =>
      Br (decide (r121 > r53)) (C56 (⟨#[81]⟩ : ByteArray) vw122 fun r123 vw124 =>
          C53 r27 (r123.1, r123.2.1, r123.2.2) vw124 fun r125 vw126 =>
            Br (r125 != 0) (R false vw126) (I120 (IntKind.i64.wrap (s118 + 1)) vw126)) (C55 r27 vw122.drew fun r127 vw128 =>
          ∃ vS129 : World → Prop, vS129 vw128 ∧ Br (r127 == r53) (LdST vS129 (⟨vw54.heap.size, 0, none⟩ : Addr) 0 LiA29 fun (x130 : TyA29) =>
            C52 r27 vw128 fun r131 vw132 =>
              vS129 vw132 ∧ C57 r131 x130 vw132 fun r133 vw134 =>
                ∃ vS135 : World → Prop, vS135 vw134 ∧ Br r133 (LdST vS135 (⟨vw54.heap.size, 0, none⟩ : Addr) 0 LiA29 fun (x136 : TyA29) =>
                  C52 r27 vw134 fun r137 vw138 =>
                    vS135 vw138 ∧ C50 r137 x136 vw138 fun r139 vw140 =>
                      Br r139 (C47 vw140 fun r141 vw142 =>
                          R r141 vw142) (R false vw140)) (R false vw134)) (∃ vS143 : World → Prop, vS143 vw128 ∧ R false vw128))) (C55 r27 vw119.drew fun r144 vw145 =>
      ∃ vS146 : World → Prop, vS146 vw145 ∧ Br (r144 == r53) (LdST vS146 (⟨vw54.heap.size, 0, none⟩ : Addr) 0 LiA29 fun (x147 : TyA29) =>
        C52 r27 vw145 fun r148 vw149 =>
          vS146 vw149 ∧ C57 r148 x147 vw149 fun r150 vw151 =>
            ∃ vS152 : World → Prop, vS152 vw151 ∧ Br r150 (LdST vS152 (⟨vw54.heap.size, 0, none⟩ : Addr) 0 LiA29 fun (x153 : TyA29) =>
              C52 r27 vw151 fun r154 vw155 =>
                vS152 vw155 ∧ C50 r154 x153 vw155 fun r156 vw157 =>
                  Br r156 (C47 vw157 fun r158 vw159 =>
                      R r158 vw159) (R false vw157)) (R false vw151)) (∃ vS160 : World → Prop, vS160 vw145 ∧ R false vw145))
def S10L2 (l3 : Slc) (r27 : Option Addr) (r53 : Int) (vw54 : World) (R : Bool → World → Prop) (I90 : Int → World → Prop) (s88 : Int) (vw89 : World) : Prop :=
  Br (decide (s88 < ((l3.len : Nat) : Int))) (0 ≤ s88 ∧ s88 < (l3.len : Nat) ∧ Nn l3.p fun a91 =>
    Ld vw89 (a91.add ((s88).toNat * 3)) Value.string fun (x92 : ByteArray) =>
    Br (!(x92.toList == (⟨#[81]⟩ : ByteArray).toList)) (0 ≤ s88 ∧ s88 < (l3.len : Nat) ∧ Nn l3.p fun a93 =>
      Ld vw89 (a93.add ((s88).toNat * 3)) Value.string fun (x94 : ByteArray) =>
      Ld vw89 ((a93.add ((s88).toNat * 3)).add 1) Slc.v fun (x95 : Slc) =>
      Ld vw89 ((a93.add ((s88).toNat * 3)).add 2) Value.string fun (x96 : ByteArray) =>
      C53 r27 (x94, x95, x96) vw89 fun r97 vw98 =>
        I90 (IntKind.i64.wrap (s88 + 1)) vw98) (C55 r27 vw89 fun r99 vw100 =>
        Br (decide (r99 > (IntKind.i64.wrap (r53 + 1)))) (0 ≤ s88 ∧ s88 < (l3.len : Nat) ∧ Nn l3.p fun a101 =>
          Ld vw100 (a101.add ((s88).toNat * 3)) Value.string fun (x102 : ByteArray) =>
          Ld vw100 ((a101.add ((s88).toNat * 3)).add 1) Slc.v fun (x103 : Slc) =>
          Ld vw100 ((a101.add ((s88).toNat * 3)).add 2) Value.string fun (x104 : ByteArray) =>
          C53 r27 (x102, x103, x104) vw100 fun r105 vw106 =>
            I90 (IntKind.i64.wrap (s88 + 1)) vw106) (I90 (IntKind.i64.wrap (s88 + 1)) vw100))) (Lp (σ := Int) (S10L1 r27 r53 vw54 R) 0 vw89)
def S10L3 (ahead2 : Slc) (l3 : Slc) (r27 : Option Addr) (R : Bool → World → Prop) (I44 : Int → World → Prop) (s42 : Int) (vw43 : World) : Prop :=
  Br (decide (s42 < ((ahead2.len : Nat) : Int))) (0 ≤ s42 ∧ s42 < (ahead2.len : Nat) ∧ Nn ahead2.p fun a45 =>
    Ld vw43 (a45.add ((s42).toNat * 3)) Value.string fun (x46 : ByteArray) =>
    Ld vw43 ((a45.add ((s42).toNat * 3)).add 1) Slc.v fun (x47 : Slc) =>
    Ld vw43 ((a45.add ((s42).toNat * 3)).add 2) Value.string fun (x48 : ByteArray) =>
    C53 r27 (x46, x47, x48) vw43 fun r49 vw50 =>
      I44 (IntKind.i64.wrap (s42 + 1)) vw50) (C52 r27 vw43 fun r51 vw52 =>
      C55 r27 vw52 fun r53 vw54 =>
        Nw vw54 (.cells #[.int .i64 0, .int .i64 0, .int .i64 0, .int .i64 0, .int .i64 0, .int .i64 0, .int .i64 0, .int .i64 0, .int .i64 0, .int .i64 0, Slc.v ((⟨none, 0, 0⟩ : Slc)), .int .i64 0, .int .i64 0, .int .i64 0, .int .i64 0, .int .i64 0, .int .i64 0, .int .i64 0, .int .i64 0, .int .i64 0, .int .i64 0, .int .i64 0, .int .i64 0, .int .i64 0, .int .i64 0, .int .i64 0, .int .i64 0, .int .i64 0, .string ((⟨#[]⟩ : ByteArray)), .int .i64 0] 30) fun vw55 =>
        StT (⟨vw54.heap.size, 0, none⟩ : Addr) 0 LiA29 r51 vw55 fun vw56 =>
        C56 (⟨#[113]⟩ : ByteArray) vw56 fun r63 vw64 =>
          C53 r27 (r63.1, r63.2.1, r63.2.2) vw64 fun r65 vw66 =>
            Br (r65 != 0) (Br (r53 == 28) (C47 vw66 fun r67 vw68 =>
                  R r67 vw68) (R false vw66)) (Lp (σ := Int) (S10L2 l3 r27 r53 vw54 R) 0 vw66))
/-- foliant/foliantlaw44.StateBack -/
def S10 (m1 : Int × Int × Int × Int × Int × Int) (ahead2 : Slc) (l3 : Slc) (w : World) (R : Bool → World → Prop) : Prop :=
  Nw w (.cells #[.int .i64 (m1.1), .int .i64 (m1.2.1), .int .i64 (m1.2.2.1), .int .i64 (m1.2.2.2.1), .int .i64 (m1.2.2.2.2.1), .int .i64 (m1.2.2.2.2.2)] 23) fun vw4 =>
  C46 ahead2 vw4 fun r13 vw14 =>
    Br (!r13) (C47 vw14 fun r15 vw16 =>
        R r15 vw16) (C46 l3 vw14 fun r17 vw18 =>
        Br (!r17) (C47 vw18 fun r19 vw20 =>
            R r19 vw20) (Ld vw18 (⟨w.heap.size, 0, none⟩ : Addr) (Value.int .i64) fun (x21 : Int) =>
          Ld vw18 ((⟨w.heap.size, 0, none⟩ : Addr).add 1) (Value.int .i64) fun (x22 : Int) =>
          Ld vw18 ((⟨w.heap.size, 0, none⟩ : Addr).add 2) (Value.int .i64) fun (x23 : Int) =>
          Ld vw18 ((⟨w.heap.size, 0, none⟩ : Addr).add 3) (Value.int .i64) fun (x24 : Int) =>
          Ld vw18 ((⟨w.heap.size, 0, none⟩ : Addr).add 4) (Value.int .i64) fun (x25 : Int) =>
          Ld vw18 ((⟨w.heap.size, 0, none⟩ : Addr).add 5) (Value.int .i64) fun (x26 : Int) =>
          C48 (x21, x22, x23, x24, x25, x26) vw18 fun r27 vw28 =>
            Br r27.isNone (C47 vw28 fun r31 vw32 =>
                R r31 vw32) (Lp (σ := Int) (S10L3 ahead2 l3 r27 R) 0 vw28)))
def pl10 : Plan := (.seq (.reg .seq) (.seq (.seq (.reg .seq) (.cond (.seq (.reg .seq) .leaf) .leaf)) (.seq (.reg .seq) (.seq (.seq (.reg .seq) (.cond (.seq (.reg .seq) .leaf) .leaf)) (.seq (.seq (.reg .seq) (.block (.loop [(8, (.one (.int .i64)))] [1, 2, 7] (.seq (.seq (.reg .seq) (.cond .leaf .leaf)) (.seq (.block (.reg .seq)) (.reg .seq)))))) (.seq (.reg .seq) (.seq (.seq (.reg .seq) (.cond (.seq (.reg .seq) .leaf) .leaf)) (.seq (.seq (.reg .seq) (.block (.loop [(11, (.one (.int .i64)))] [2, 7, 9, 10] (.seq (.seq (.reg .seq) (.cond .leaf .leaf)) (.seq (.block (.seq (.reg .seq) (.cond (.reg .seq) .leaf))) (.reg .seq)))))) (.seq (.seq (.reg .seq) (.block (.loop [(12, (.one (.int .i64)))] [7, 9, 10] (.seq (.seq (.reg .seq) (.cond .leaf .leaf)) (.seq (.block (.seq (.reg .seq) (.cond (.seq (.reg .seq) .leaf) .leaf))) (.reg .seq)))))) (.seq (.reg (.held [1] (.take 0 (.take 2 (.eff 1 (some [8]) (.take 3 (.take 4 (.take 5 (.take 7 (.eff 6 none (.eff 8 (some [14]) (.take 9 (.take 10 (.take 11 (.take 13 (.eff 12 none (.eff 14 (some [17]) (.take 15 (.take 16 (.eff 17 (some []) (.take 18 (.take 19 .done)))))))))))))))))))))) .leaf))))))))))
set_option maxRecDepth 100000 in
theorem T10 (m1 : Int × Int × Int × Int × Int × Int) (ahead2 : Slc) (l3 : Slc) (w : World) (R : Bool → World → Prop) (h : S10 m1 ahead2 l3 w R) : C10 (m1.1, m1.2.1, m1.2.2.1, m1.2.2.2.1, m1.2.2.2.2.1, m1.2.2.2.2.2) ahead2 l3 w R := by
  have e : fnT Tryd.prog ⟨FF, MAY, (fun _ _ => False)⟩ pl10 Tryd.f10 [.agg #[.int .i64 (m1.1), .int .i64 (m1.2.1), .int .i64 (m1.2.2.1), .int .i64 (m1.2.2.2.1), .int .i64 (m1.2.2.2.2.1), .int .i64 (m1.2.2.2.2.2)], Slc.v ahead2, Slc.v l3] w [(.one .bool)] (fun s w => R s w) = S10 m1 ahead2 l3 w R := by kernel_rfl
  exact (fn_calls okF okM Tryd.func10 (by kernel_rfl) (by kernel_rfl) (e.mpr h)).mono fun _ _ ⟨s, he, hR⟩ => ⟨s, he, hR⟩

def S9L1 (l2 : Slc) (r18 : Option Addr) (vw113 : World) (R : Bool → World → Prop) (I118 : Int → World → Prop) (s116 : Int) (vw117 : World) : Prop :=
  Br (decide (s116 < ((l2.len : Nat) : Int))) (0 ≤ s116 ∧ s116 < (l2.len : Nat) ∧ Nn l2.p fun a119 =>
    Ld vw117 (a119.add ((s116).toNat * 3)) Value.string fun (x120 : ByteArray) =>
    Ld vw117 ((a119.add ((s116).toNat * 3)).add 1) Slc.v fun (x121 : Slc) =>
    Ld vw117 ((a119.add ((s116).toNat * 3)).add 2) Value.string fun (x122 : ByteArray) =>
    C53 r18 (x120, x121, x122) vw117 fun r123 vw124 =>
      ∃ vS141 : World → Prop, vS141 vw124.drew ∧ LdST vS141 (⟨vw113.heap.size, 0, none⟩ : Addr) 0 LiA107 fun (x142 : TyA107) =>
      0 ≤ s116 ∧ s116 < (l2.len : Nat) ∧ Nn l2.p fun a143 =>
      LdS vS141 (a143.add ((s116).toNat * 3)) Value.string fun (x144 : ByteArray) =>
      LdS vS141 ((a143.add ((s116).toNat * 3)).add 1) Slc.v fun (x145 : Slc) =>
      LdS vS141 ((a143.add ((s116).toNat * 3)).add 2) Value.string fun (x146 : ByteArray) =>
      (C54 x142 (x144, x145, x146) vw124.drew fun r147 r148 vw149 =>
          Nw vw149 (.cells #[.int .i64 0, .int .i64 0, .int .i64 0, .int .i64 0, .int .i64 0, .int .i64 0, .int .i64 0, .int .i64 0, .int .i64 0, .int .i64 0, Slc.v ((⟨none, 0, 0⟩ : Slc)), .int .i64 0, .int .i64 0, .int .i64 0, .int .i64 0, .int .i64 0, .int .i64 0, .int .i64 0, .int .i64 0, .int .i64 0, .int .i64 0, .int .i64 0, .int .i64 0, .int .i64 0, .int .i64 0, .int .i64 0, .int .i64 0, .int .i64 0, .string ((⟨#[]⟩ : ByteArray)), .int .i64 0, Slc.v ((⟨none, 0, 0⟩ : Slc))] 108) fun vw150 =>
          StT (⟨vw149.heap.size, 0, none⟩ : Addr) 0 LiA107 r147 vw150 fun vw151 =>
          LdT vw151 (⟨vw149.heap.size, 0, none⟩ : Addr) 0 LiA107 fun (x152 : TyA107) =>
          StT (⟨vw113.heap.size, 0, none⟩ : Addr) 0 LiA107 x152 vw151 fun vw153 =>
          ∃ vS154 : World → Prop, vS154 vw153.drew ∧ Br (r123 != r148) (R false vw153.drew) (LdS vS154 ((⟨vw113.heap.size, 0, none⟩ : Addr).add 30) Slc.v fun (x155 : Slc) =>
            C55 r18 vw153.drew fun r156 vw157 =>
              vS154 vw157 ∧ Br (r156 != ((x155.len : Nat) : Int)) (R false vw157) (LdST vS154 (⟨vw113.heap.size, 0, none⟩ : Addr) 0 LiA29 fun (x158 : TyA29) =>
                C52 r18 vw157 fun r159 vw160 =>
                  vS154 vw160 ∧ C50 r159 x158 vw160 fun r161 vw162 =>
                    Br (!r161) (R false vw162) (I118 (IntKind.i64.wrap (s116 + 1)) vw162)))) ∧
      (Nw vw124.drew (.cells #[.int .i64 0, .int .i64 0, .int .i64 0, .int .i64 0, .int .i64 0, .int .i64 0, .int .i64 0, .int .i64 0, .int .i64 0, .int .i64 0, Slc.v ((⟨none, 0, 0⟩ : Slc)), .int .i64 0, .int .i64 0, .int .i64 0, .int .i64 0, .int .i64 0, .int .i64 0, .int .i64 0, .int .i64 0, .int .i64 0, .int .i64 0, .int .i64 0, .int .i64 0, .int .i64 0, .int .i64 0, .int .i64 0, .int .i64 0, .int .i64 0, .string ((⟨#[]⟩ : ByteArray)), .int .i64 0, Slc.v ((⟨none, 0, 0⟩ : Slc))] 108) fun vw163 =>
        vS141 vw163 ∧ C54 x142 (x144, x145, x146) vw163 fun r164 r165 vw166 =>
          StT (⟨vw124.drew.heap.size, 0, none⟩ : Addr) 0 LiA107 r164 vw166 fun vw167 =>
          LdT vw167 (⟨vw124.drew.heap.size, 0, none⟩ : Addr) 0 LiA107 fun (x168 : TyA107) =>
          StT (⟨vw113.heap.size, 0, none⟩ : Addr) 0 LiA107 x168 vw167 fun vw169 =>
          ∃ vS170 : World → Prop, vS170 vw169.drew ∧ Br (r123 != r165) (R false vw169.drew) (LdS vS170 ((⟨vw113.heap.size, 0, none⟩ : Addr).add 30) Slc.v fun (x171 : Slc) =>
            C55 r18 vw169.drew fun r172 vw173 =>
              vS170 vw173 ∧ Br (r172 != ((x171.len : Nat) : Int)) (R false vw173) (LdST vS170 (⟨vw113.heap.size, 0, none⟩ : Addr) 0 LiA29 fun (x174 : TyA29) =>
                C52 r18 vw173 fun r175 vw176 =>
                  vS170 vw176 ∧ C50 r175 x174 vw176 fun r177 vw178 =>
                    Br (!r177) (R false vw178) (I118 (IntKind.i64.wrap (s116 + 1)) vw178))))) (C47 vw117 fun r179 vw180 =>
      R r179 vw180)
/-- foliant/foliantlaw44.StateDoes -/
def S9 (m1 : Int × Int × Int × Int × Int × Int) (l2 : Slc) (w : World) (R : Bool → World → Prop) : Prop :=
  Nw w (.cells #[.int .i64 (m1.1), .int .i64 (m1.2.1), .int .i64 (m1.2.2.1), .int .i64 (m1.2.2.2.1), .int .i64 (m1.2.2.2.2.1), .int .i64 (m1.2.2.2.2.2)] 23) fun vw3 =>
  C46 l2 vw3 fun r8 vw9 =>
    Br (!r8) (C47 vw9 fun r10 vw11 =>
        R r10 vw11) (Ld vw9 (⟨w.heap.size, 0, none⟩ : Addr) (Value.int .i64) fun (x12 : Int) =>
      Ld vw9 ((⟨w.heap.size, 0, none⟩ : Addr).add 1) (Value.int .i64) fun (x13 : Int) =>
      Ld vw9 ((⟨w.heap.size, 0, none⟩ : Addr).add 2) (Value.int .i64) fun (x14 : Int) =>
      Ld vw9 ((⟨w.heap.size, 0, none⟩ : Addr).add 3) (Value.int .i64) fun (x15 : Int) =>
      Ld vw9 ((⟨w.heap.size, 0, none⟩ : Addr).add 4) (Value.int .i64) fun (x16 : Int) =>
      Ld vw9 ((⟨w.heap.size, 0, none⟩ : Addr).add 5) (Value.int .i64) fun (x17 : Int) =>
      C48 (x12, x13, x14, x15, x16, x17) vw9 fun r18 vw19 =>
        Ld vw19 (⟨w.heap.size, 0, none⟩ : Addr) (Value.int .i64) fun (x30 : Int) =>
        Ld vw19 ((⟨w.heap.size, 0, none⟩ : Addr).add 1) (Value.int .i64) fun (x31 : Int) =>
        Ld vw19 ((⟨w.heap.size, 0, none⟩ : Addr).add 2) (Value.int .i64) fun (x32 : Int) =>
        Ld vw19 ((⟨w.heap.size, 0, none⟩ : Addr).add 3) (Value.int .i64) fun (x33 : Int) =>
        Ld vw19 ((⟨w.heap.size, 0, none⟩ : Addr).add 4) (Value.int .i64) fun (x34 : Int) =>
        Ld vw19 ((⟨w.heap.size, 0, none⟩ : Addr).add 5) (Value.int .i64) fun (x35 : Int) =>
        C49 (x30, x31, x32, x33, x34, x35) vw19 fun r36 vw37 =>
          Br (r36 != 0) (Br r18.isNone (C47 vw37 fun r38 vw39 =>
                R r38 vw39) (R false vw37)) (∃ vS73 : World → Prop, vS73 vw37.drew ∧ Br r18.isNone (∃ vS74 : World → Prop, vS74 vw37.drew ∧ R false vw37.drew) (LdS vS73 (⟨w.heap.size, 0, none⟩ : Addr) (Value.int .i64) fun (x75 : Int) =>
              LdS vS73 ((⟨w.heap.size, 0, none⟩ : Addr).add 1) (Value.int .i64) fun (x76 : Int) =>
              LdS vS73 ((⟨w.heap.size, 0, none⟩ : Addr).add 2) (Value.int .i64) fun (x77 : Int) =>
              LdS vS73 ((⟨w.heap.size, 0, none⟩ : Addr).add 3) (Value.int .i64) fun (x78 : Int) =>
              LdS vS73 ((⟨w.heap.size, 0, none⟩ : Addr).add 4) (Value.int .i64) fun (x79 : Int) =>
              LdS vS73 ((⟨w.heap.size, 0, none⟩ : Addr).add 5) (Value.int .i64) fun (x80 : Int) =>
              LdS vS73 (⟨w.heap.size, 0, none⟩ : Addr) (Value.int .i64) fun (x81 : Int) =>
              LdS vS73 ((⟨w.heap.size, 0, none⟩ : Addr).add 1) (Value.int .i64) fun (x82 : Int) =>
              LdS vS73 ((⟨w.heap.size, 0, none⟩ : Addr).add 2) (Value.int .i64) fun (x83 : Int) =>
              LdS vS73 ((⟨w.heap.size, 0, none⟩ : Addr).add 3) (Value.int .i64) fun (x84 : Int) =>
              LdS vS73 ((⟨w.heap.size, 0, none⟩ : Addr).add 4) (Value.int .i64) fun (x85 : Int) =>
              LdS vS73 ((⟨w.heap.size, 0, none⟩ : Addr).add 5) (Value.int .i64) fun (x86 : Int) =>
              C13 (x75, x76, x77, x78, x79, x80) vw37.drew fun r87 vw88 =>
                vS73 vw88 ∧ C51 (x81, x82, x83, x84, x85, x86) vw88 fun r89 vw90 =>
                  C50 r87 r89 vw90 fun r91 vw92 =>
                    ∃ vS93 : World → Prop, vS93 vw92 ∧ Br (!r91) (R false vw92) (LdS vS93 (⟨w.heap.size, 0, none⟩ : Addr) (Value.int .i64) fun (x94 : Int) =>
                      LdS vS93 ((⟨w.heap.size, 0, none⟩ : Addr).add 1) (Value.int .i64) fun (x95 : Int) =>
                      LdS vS93 ((⟨w.heap.size, 0, none⟩ : Addr).add 2) (Value.int .i64) fun (x96 : Int) =>
                      LdS vS93 ((⟨w.heap.size, 0, none⟩ : Addr).add 3) (Value.int .i64) fun (x97 : Int) =>
                      LdS vS93 ((⟨w.heap.size, 0, none⟩ : Addr).add 4) (Value.int .i64) fun (x98 : Int) =>
                      LdS vS93 ((⟨w.heap.size, 0, none⟩ : Addr).add 5) (Value.int .i64) fun (x99 : Int) =>
                      C52 r18 vw92 fun r100 vw101 =>
                        vS93 vw101 ∧ C51 (x94, x95, x96, x97, x98, x99) vw101 fun r102 vw103 =>
                          C50 r100 r102 vw103 fun r104 vw105 =>
                            Br (!r104) (R false vw105) (Ld vw105 (⟨w.heap.size, 0, none⟩ : Addr) (Value.int .i64) fun (x106 : Int) =>
                              Ld vw105 ((⟨w.heap.size, 0, none⟩ : Addr).add 1) (Value.int .i64) fun (x107 : Int) =>
                              Ld vw105 ((⟨w.heap.size, 0, none⟩ : Addr).add 2) (Value.int .i64) fun (x108 : Int) =>
                              Ld vw105 ((⟨w.heap.size, 0, none⟩ : Addr).add 3) (Value.int .i64) fun (x109 : Int) =>
                              Ld vw105 ((⟨w.heap.size, 0, none⟩ : Addr).add 4) (Value.int .i64) fun (x110 : Int) =>
                              Ld vw105 ((⟨w.heap.size, 0, none⟩ : Addr).add 5) (Value.int .i64) fun (x111 : Int) =>
                              C51 (x106, x107, x108, x109, x110, x111) vw105 fun r112 vw113 =>
                                Nw vw113 (.cells #[.int .i64 0, .int .i64 0, .int .i64 0, .int .i64 0, .int .i64 0, .int .i64 0, .int .i64 0, .int .i64 0, .int .i64 0, .int .i64 0, Slc.v ((⟨none, 0, 0⟩ : Slc)), .int .i64 0, .int .i64 0, .int .i64 0, .int .i64 0, .int .i64 0, .int .i64 0, .int .i64 0, .int .i64 0, .int .i64 0, .int .i64 0, .int .i64 0, .int .i64 0, .int .i64 0, .int .i64 0, .int .i64 0, .int .i64 0, .int .i64 0, .string ((⟨#[]⟩ : ByteArray)), .int .i64 0, Slc.v ((⟨none, 0, 0⟩ : Slc))] 108) fun vw114 =>
                                StT (⟨vw113.heap.size, 0, none⟩ : Addr) 0 LiA107 ((r112.1, r112.2.1, r112.2.2.1, r112.2.2.2.1, r112.2.2.2.2.1, r112.2.2.2.2.2.1, r112.2.2.2.2.2.2.1, r112.2.2.2.2.2.2.2.1, r112.2.2.2.2.2.2.2.2.1, r112.2.2.2.2.2.2.2.2.2.1, r112.2.2.2.2.2.2.2.2.2.2.1, r112.2.2.2.2.2.2.2.2.2.2.2.1, r112.2.2.2.2.2.2.2.2.2.2.2.2.1, r112.2.2.2.2.2.2.2.2.2.2.2.2.2.1, r112.2.2.2.2.2.2.2.2.2.2.2.2.2.2.1, r112.2.2.2.2.2.2.2.2.2.2.2.2.2.2.2.1, r112.2.2.2.2.2.2.2.2.2.2.2.2.2.2.2.2.1, r112.2.2.2.2.2.2.2.2.2.2.2.2.2.2.2.2.2.1, r112.2.2.2.2.2.2.2.2.2.2.2.2.2.2.2.2.2.2.1, r112.2.2.2.2.2.2.2.2.2.2.2.2.2.2.2.2.2.2.2.1, r112.2.2.2.2.2.2.2.2.2.2.2.2.2.2.2.2.2.2.2.2.1, r112.2.2.2.2.2.2.2.2.2.2.2.2.2.2.2.2.2.2.2.2.2.1, r112.2.2.2.2.2.2.2.2.2.2.2.2.2.2.2.2.2.2.2.2.2.2.1, r112.2.2.2.2.2.2.2.2.2.2.2.2.2.2.2.2.2.2.2.2.2.2.2.1, r112.2.2.2.2.2.2.2.2.2.2.2.2.2.2.2.2.2.2.2.2.2.2.2.2.1, r112.2.2.2.2.2.2.2.2.2.2.2.2.2.2.2.2.2.2.2.2.2.2.2.2.2.1, r112.2.2.2.2.2.2.2.2.2.2.2.2.2.2.2.2.2.2.2.2.2.2.2.2.2.2.1, r112.2.2.2.2.2.2.2.2.2.2.2.2.2.2.2.2.2.2.2.2.2.2.2.2.2.2.2.1, r112.2.2.2.2.2.2.2.2.2.2.2.2.2.2.2.2.2.2.2.2.2.2.2.2.2.2.2.2.1, r112.2.2.2.2.2.2.2.2.2.2.2.2.2.2.2.2.2.2.2.2.2.2.2.2.2.2.2.2.2, (⟨none, 0, 0⟩ : Slc)) : TyA107) vw114 fun vw115 =>
                                Lp (σ := Int) (S9L1 l2 r18 vw113 R) 0 vw115)))))
def pl9 : Plan := (.seq (.reg .seq) (.seq (.seq (.reg .seq) (.cond (.seq (.reg .seq) .leaf) .leaf)) (.seq (.reg .seq) (.seq (.seq (.reg .seq) (.cond (.seq (.reg .seq) .leaf) .leaf)) (.seq (.seq (.reg (.held [6] (.take 0 (.take 1 (.take 2 (.take 3 (.take 5 (.eff 4 none (.eff 6 (some [7]) (.eff 7 (some [14]) (.take 8 (.take 9 (.take 10 (.take 11 (.take 13 (.eff 12 none (.eff 14 (some [15]) (.eff 15 (some []) (.take 16 (.take 17 .done)))))))))))))))))))) (.cond (.seq (.reg .seq) .leaf) .leaf)) (.seq (.reg .seq) (.seq (.seq (.reg .seq) (.block (.loop [(7, (.one (.int .i64)))] [1, 5, 6] (.seq (.seq (.reg .seq) (.cond .leaf .leaf)) (.seq (.block (.seq (.reg .seq) (.seq (.reg (.held [5] (.take 0 (.take 1 (.take 2 (.take 3 (.take 4 (.effs 5 (some [9]) (.take 6 (.take 7 (.take 8 (.eff 9 (some [10]) (.eff 10 (some []) (.take 11 .done)))))) (.eff 9 none (.eff 5 (some [10]) (.take 6 (.take 7 (.take 8 (.eff 10 (some []) (.take 11 .done))))))))))))))) (.seq (.reg .seq) (.seq (.reg (.held [16] (.take 0 (.take 1 (.take 2 (.take 3 (.take 4 (.take 6 (.take 7 (.take 8 (.eff 5 none (.take 9 (.take 10 (.take 11 (.take 12 (.take 14 (.take 15 (.eff 13 none (.eff 16 (some []) (.take 17 (.take 18 .done))))))))))))))))))))) (.cond (.seq (.reg .seq) .leaf) .leaf)))))) (.reg .seq)))))) (.seq (.reg .seq) .leaf))))))))
set_option maxRecDepth 100000 in
theorem T9 (m1 : Int × Int × Int × Int × Int × Int) (l2 : Slc) (w : World) (R : Bool → World → Prop) (h : S9 m1 l2 w R) : C9 (m1.1, m1.2.1, m1.2.2.1, m1.2.2.2.1, m1.2.2.2.2.1, m1.2.2.2.2.2) l2 w R := by
  have e : fnT Tryd.prog ⟨FF, MAY, (fun _ _ => False)⟩ pl9 Tryd.f9 [.agg #[.int .i64 (m1.1), .int .i64 (m1.2.1), .int .i64 (m1.2.2.1), .int .i64 (m1.2.2.2.1), .int .i64 (m1.2.2.2.2.1), .int .i64 (m1.2.2.2.2.2)], Slc.v l2] w [(.one .bool)] (fun s w => R s w) = S9 m1 l2 w R := by kernel_rfl
  exact (fn_calls okF okM Tryd.func9 (by kernel_rfl) (by kernel_rfl) (e.mpr h)).mono fun _ _ ⟨s, he, hR⟩ => ⟨s, he, hR⟩

end Go.Proofs.YtjbeembbnkmpeaaDoor
