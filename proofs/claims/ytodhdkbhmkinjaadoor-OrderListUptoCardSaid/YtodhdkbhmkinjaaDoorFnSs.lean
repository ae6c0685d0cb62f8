/- The formulas of 21 functions of the program, written by program (gen.py); the kernel checks each. No condition. -/
import Derived.Test.YtodhdkbhmkinjaaDoorFn
namespace Go.Proofs.YtodhdkbhmkinjaaDoor
open Sh
set_option linter.unusedVariables false
set_option maxRecDepth 100000

def C54 (x1 : Int) (w : World) (R : Bool → World → Prop) : Prop :=
  Calls Tryd.prog 54 #[.int .i64 x1] w fun e w' => ∃ r0 : Bool, e = .returned (.bool r0) ∧ R r0 w'
theorem C54.mono {x1 : Int} {w : World} {R R' : Bool → World → Prop} (h : C54 x1 w R) (hr : ∀ r0 w', R r0 w' → R' r0 w') : C54 x1 w R' :=
  Calls.mono h fun _ _ ⟨r0, he, hR⟩ => ⟨r0, he, hr _ _ hR⟩
def C41 (x1 : Int) (y2 : Int) (w : World) (R : Int → World → Prop) : Prop :=
  Calls Tryd.prog 41 #[.int .i64 x1, .int .i64 y2] w fun e w' => ∃ r0 : Int, e = .returned (.int .i64 r0) ∧ R r0 w'
theorem C41.mono {x1 : Int} {y2 : Int} {w : World} {R R' : Int → World → Prop} (h : C41 x1 y2 w R) (hr : ∀ r0 w', R r0 w' → R' r0 w') : C41 x1 y2 w R' :=
  Calls.mono h fun _ _ ⟨r0, he, hR⟩ => ⟨r0, he, hr _ _ hR⟩
def C40 (a1 : TyA60) (b2 : TyA60) (w : World) (R : Int → World → Prop) : Prop :=
  Calls Tryd.prog 40 #[.agg (Sig.cells LiA60 a1).toArray, .agg (Sig.cells LiA60 b2).toArray] w fun e w' => ∃ r0 : Int, e = .returned (.int .i64 r0) ∧ R r0 w'
theorem C40.mono {a1 : TyA60} {b2 : TyA60} {w : World} {R R' : Int → World → Prop} (h : C40 a1 b2 w R) (hr : ∀ r0 w', R r0 w' → R' r0 w') : C40 a1 b2 w R' :=
  Calls.mono h fun _ _ ⟨r0, he, hR⟩ => ⟨r0, he, hr _ _ hR⟩
def C60 (data1 : Slc) (a2 : Int) (b3 : Int) (cmp4 : Value) (w : World) (R : World → Prop) : Prop :=
  Calls Tryd.prog 60 #[Slc.v data1, .int .i64 a2, .int .i64 b3, cmp4] w fun e w' => e = .returned (.tuple #[]) ∧ R w'
theorem C60.mono {data1 : Slc} {a2 : Int} {b3 : Int} {cmp4 : Value} {w : World} {R R' : World → Prop} (h : C60 data1 a2 b3 cmp4 w R) (hr : ∀ w', R w' → R' w') : C60 data1 a2 b3 cmp4 w R' :=
  Calls.mono h fun _ _ ⟨he, hR⟩ => ⟨he, hr _ hR⟩
def C88 (data1 : Slc) (a2 : Int) (b3 : Int) (n4 : Int) (cmp5 : Value) (w : World) (R : World → Prop) : Prop :=
  Calls Tryd.prog 88 #[Slc.v data1, .int .i64 a2, .int .i64 b3, .int .i64 n4, cmp5] w fun e w' => e = .returned (.tuple #[]) ∧ R w'
theorem C88.mono {data1 : Slc} {a2 : Int} {b3 : Int} {n4 : Int} {cmp5 : Value} {w : World} {R R' : World → Prop} (h : C88 data1 a2 b3 n4 cmp5 w R) (hr : ∀ w', R w' → R' w') : C88 data1 a2 b3 n4 cmp5 w R' :=
  Calls.mono h fun _ _ ⟨he, hR⟩ => ⟨he, hr _ hR⟩
def C78 (data1 : Slc) (a2 : Int) (m3 : Int) (b4 : Int) (cmp5 : Value) (w : World) (R : World → Prop) : Prop :=
  Calls Tryd.prog 78 #[Slc.v data1, .int .i64 a2, .int .i64 m3, .int .i64 b4, cmp5] w fun e w' => e = .returned (.tuple #[]) ∧ R w'
theorem C78.mono {data1 : Slc} {a2 : Int} {m3 : Int} {b4 : Int} {cmp5 : Value} {w : World} {R R' : World → Prop} (h : C78 data1 a2 m3 b4 cmp5 w R) (hr : ∀ w', R w' → R' w') : C78 data1 a2 m3 b4 cmp5 w R' :=
  Calls.mono h fun _ _ ⟨he, hR⟩ => ⟨he, hr _ hR⟩
def C61 (data1 : Slc) (a2 : Int) (m3 : Int) (b4 : Int) (cmp5 : Value) (w : World) (R : World → Prop) : Prop :=
  Calls Tryd.prog 61 #[Slc.v data1, .int .i64 a2, .int .i64 m3, .int .i64 b4, cmp5] w fun e w' => e = .returned (.tuple #[]) ∧ R w'
theorem C61.mono {data1 : Slc} {a2 : Int} {m3 : Int} {b4 : Int} {cmp5 : Value} {w : World} {R R' : World → Prop} (h : C61 data1 a2 m3 b4 cmp5 w R) (hr : ∀ w', R w' → R' w') : C61 data1 a2 m3 b4 cmp5 w R' :=
  Calls.mono h fun _ _ ⟨he, hR⟩ => ⟨he, hr _ hR⟩
def C53 (data1 : Slc) (n2 : Int) (cmp3 : Value) (w : World) (R : World → Prop) : Prop :=
  Calls Tryd.prog 53 #[Slc.v data1, .int .i64 n2, cmp3] w fun e w' => e = .returned (.tuple #[]) ∧ R w'
theorem C53.mono {data1 : Slc} {n2 : Int} {cmp3 : Value} {w : World} {R R' : World → Prop} (h : C53 data1 n2 cmp3 w R) (hr : ∀ w', R w' → R' w') : C53 data1 n2 cmp3 w R' :=
  Calls.mono h fun _ _ ⟨he, hR⟩ => ⟨he, hr _ hR⟩
def C39 (x1 : Slc) (cmp2 : Value) (w : World) (R : World → Prop) : Prop :=
  Calls Tryd.prog 39 #[Slc.v x1, cmp2] w fun e w' => e = .returned (.tuple #[]) ∧ R w'
theorem C39.mono {x1 : Slc} {cmp2 : Value} {w : World} {R R' : World → Prop} (h : C39 x1 cmp2 w R) (hr : ∀ w', R w' → R' w') : C39 x1 cmp2 w R' :=
  Calls.mono h fun _ _ ⟨he, hR⟩ => ⟨he, hr _ hR⟩
def C51 (n1 : Int) (w : World) (R : Int → World → Prop) : Prop :=
  Calls Tryd.prog 51 #[.int .i64 n1] w fun e w' => ∃ r0 : Int, e = .returned (.int .i64 r0) ∧ R r0 w'
theorem C51.mono {n1 : Int} {w : World} {R R' : Int → World → Prop} (h : C51 n1 w R) (hr : ∀ r0 w', R r0 w' → R' r0 w') : C51 n1 w R' :=
  Calls.mono h fun _ _ ⟨r0, he, hR⟩ => ⟨r0, he, hr _ _ hR⟩
def C31 (g1 : TyA31) (vat2 : Int) (w : World) (R : (TyA60) → World → Prop) : Prop :=
  Calls Tryd.prog 31 #[.agg (Sig.cells LiA31 g1).toArray, .int .i64 vat2] w fun e w' => ∃ r0 : TyA60, e = .returned (.agg (Sig.cells LiA60 r0).toArray) ∧ R r0 w'
theorem C31.mono {g1 : TyA31} {vat2 : Int} {w : World} {R R' : (TyA60) → World → Prop} (h : C31 g1 vat2 w R) (hr : ∀ r0 w', R r0 w' → R' r0 w') : C31 g1 vat2 w R' :=
  Calls.mono h fun _ _ ⟨r0, he, hR⟩ => ⟨r0, he, hr _ _ hR⟩
def C32 (x1 : TyA60) (w : World) (R : (Int × Int × Int × Int) → World → Prop) : Prop :=
  Calls Tryd.prog 32 #[.agg (Sig.cells LiA60 x1).toArray] w fun e w' => ∃ r0 : Int × Int × Int × Int, e = .returned (.agg #[.int .i64 (r0.1), .int .i64 (r0.2.1), .int .i64 (r0.2.2.1), .int .i64 (r0.2.2.2)]) ∧ R r0 w'
theorem C32.mono {x1 : TyA60} {w : World} {R R' : (Int × Int × Int × Int) → World → Prop} (h : C32 x1 w R) (hr : ∀ r0 w', R r0 w' → R' r0 w') : C32 x1 w R' :=
  Calls.mono h fun _ _ ⟨r0, he, hR⟩ => ⟨r0, he, hr _ _ hR⟩
def C11 (g1 : TyA31) (w : World) (R : (Int × Int × Int × Int) → World → Prop) : Prop :=
  Calls Tryd.prog 11 #[.agg (Sig.cells LiA31 g1).toArray] w fun e w' => ∃ r0 : Int × Int × Int × Int, e = .returned (.agg #[.int .i64 (r0.1), .int .i64 (r0.2.1), .int .i64 (r0.2.2.1), .int .i64 (r0.2.2.2)]) ∧ R r0 w'
theorem C11.mono {g1 : TyA31} {w : World} {R R' : (Int × Int × Int × Int) → World → Prop} (h : C11 g1 w R) (hr : ∀ r0 w', R r0 w' → R' r0 w') : C11 g1 w R' :=
  Calls.mono h fun _ _ ⟨r0, he, hR⟩ => ⟨r0, he, hr _ _ hR⟩
def C48 (a1 : Int × Int × Int × Int) (b2 : Int × Int × Int × Int) (w : World) (R : (Int × Int × Int × Int) → World → Prop) : Prop :=
  Calls Tryd.prog 48 #[.agg #[.int .i64 (a1.1), .int .i64 (a1.2.1), .int .i64 (a1.2.2.1), .int .i64 (a1.2.2.2)], .agg #[.int .i64 (b2.1), .int .i64 (b2.2.1), .int .i64 (b2.2.2.1), .int .i64 (b2.2.2.2)]] w fun e w' => ∃ r0 : Int × Int × Int × Int, e = .returned (.agg #[.int .i64 (r0.1), .int .i64 (r0.2.1), .int .i64 (r0.2.2.1), .int .i64 (r0.2.2.2)]) ∧ R r0 w'
theorem C48.mono {a1 : Int × Int × Int × Int} {b2 : Int × Int × Int × Int} {w : World} {R R' : (Int × Int × Int × Int) → World → Prop} (h : C48 a1 b2 w R) (hr : ∀ r0 w', R r0 w' → R' r0 w') : C48 a1 b2 w R' :=
  Calls.mono h fun _ _ ⟨r0, he, hR⟩ => ⟨r0, he, hr _ _ hR⟩
def C58 (s1 : ByteArray) (cutset2 : ByteArray) (w : World) (R : ByteArray → World → Prop) : Prop :=
  Calls Tryd.prog 58 #[.string s1, .string cutset2] w fun e w' => ∃ r0 : ByteArray, e = .returned (.string r0) ∧ R r0 w'
theorem C58.mono {s1 : ByteArray} {cutset2 : ByteArray} {w : World} {R R' : ByteArray → World → Prop} (h : C58 s1 cutset2 w R) (hr : ∀ r0 w', R r0 w' → R' r0 w') : C58 s1 cutset2 w R' :=
  Calls.mono h fun _ _ ⟨r0, he, hR⟩ => ⟨r0, he, hr _ _ hR⟩
def C46 (x1 : TyA60) (w : World) (R : Bool → World → Prop) : Prop :=
  Calls Tryd.prog 46 #[.agg (Sig.cells LiA60 x1).toArray] w fun e w' => ∃ r0 : Bool, e = .returned (.bool r0) ∧ R r0 w'
theorem C46.mono {x1 : TyA60} {w : World} {R R' : Bool → World → Prop} (h : C46 x1 w R) (hr : ∀ r0 w', R r0 w' → R' r0 w') : C46 x1 w R' :=
  Calls.mono h fun _ _ ⟨r0, he, hR⟩ => ⟨r0, he, hr _ _ hR⟩
def C47 (a1 : TyA60) (b2 : TyA60) (w : World) (R : Bool → World → Prop) : Prop :=
  Calls Tryd.prog 47 #[.agg (Sig.cells LiA60 a1).toArray, .agg (Sig.cells LiA60 b2).toArray] w fun e w' => ∃ r0 : Bool, e = .returned (.bool r0) ∧ R r0 w'
theorem C47.mono {a1 : TyA60} {b2 : TyA60} {w : World} {R R' : Bool → World → Prop} (h : C47 a1 b2 w R) (hr : ∀ r0 w', R r0 w' → R' r0 w') : C47 a1 b2 w R' :=
  Calls.mono h fun _ _ ⟨r0, he, hR⟩ => ⟨r0, he, hr _ _ hR⟩
def C44 (vals1 : Slc) (w : World) (R : Int → World → Prop) : Prop :=
  Calls Tryd.prog 44 #[Slc.v vals1] w fun e w' => ∃ r0 : Int, e = .returned (.int .i64 r0) ∧ R r0 w'
theorem C44.mono {vals1 : Slc} {w : World} {R R' : Int → World → Prop} (h : C44 vals1 w R) (hr : ∀ r0 w', R r0 w' → R' r0 w') : C44 vals1 w R' :=
  Calls.mono h fun _ _ ⟨r0, he, hR⟩ => ⟨r0, he, hr _ _ hR⟩
def C57 (x1 : Int) (w : World) (R : Bool → World → Prop) : Prop :=
  Calls Tryd.prog 57 #[.int .i64 x1] w fun e w' => ∃ r0 : Bool, e = .returned (.bool r0) ∧ R r0 w'
theorem C57.mono {x1 : Int} {w : World} {R R' : Bool → World → Prop} (h : C57 x1 w R) (hr : ∀ r0 w', R r0 w' → R' r0 w') : C57 x1 w R' :=
  Calls.mono h fun _ _ ⟨r0, he, hR⟩ => ⟨r0, he, hr _ _ hR⟩
def C45 (x1 : Int) (y2 : Int) (w : World) (R : Int → World → Prop) : Prop :=
  Calls Tryd.prog 45 #[.int .i64 x1, .int .i64 y2] w fun e w' => ∃ r0 : Int, e = .returned (.int .i64 r0) ∧ R r0 w'
theorem C45.mono {x1 : Int} {y2 : Int} {w : World} {R R' : Int → World → Prop} (h : C45 x1 y2 w R) (hr : ∀ r0 w', R r0 w' → R' r0 w') : C45 x1 y2 w R' :=
  Calls.mono h fun _ _ ⟨r0, he, hR⟩ => ⟨r0, he, hr _ _ hR⟩
def C43 (a1 : TyA60) (b2 : TyA60) (w : World) (R : Int → World → Prop) : Prop :=
  Calls Tryd.prog 43 #[.agg (Sig.cells LiA60 a1).toArray, .agg (Sig.cells LiA60 b2).toArray] w fun e w' => ∃ r0 : Int, e = .returned (.int .i64 r0) ∧ R r0 w'
theorem C43.mono {a1 : TyA60} {b2 : TyA60} {w : World} {R R' : Int → World → Prop} (h : C43 a1 b2 w R) (hr : ∀ r0 w', R r0 w' → R' r0 w') : C43 a1 b2 w R' :=
  Calls.mono h fun _ _ ⟨r0, he, hR⟩ => ⟨r0, he, hr _ _ hR⟩

/-- cmp.isNaN[int64] -/
def S54 (x1 : Int) (w : World) (R : Bool → World → Prop) : Prop :=
  R (x1 != x1) w
def pl54 : Plan := (.seq (.reg .seq) (.seq (.reg .seq) .leaf))
set_option maxRecDepth 100000 in
theorem T54 (x1 : Int) (w : World) (R : Bool → World → Prop) (h : S54 x1 w R) : C54 x1 w R := by
  have e : fnT Tryd.prog ⟨FF, MAY, (fun _ _ => False)⟩ pl54 Tryd.f54 [.int .i64 x1] w [(.one .bool)] (fun s w => R s w) = S54 x1 w R := by kernel_rfl
  exact (fn_calls okF okM Tryd.func54 (by kernel_rfl) (by kernel_rfl) (e.mpr h)).mono fun _ _ ⟨s, he, hR⟩ => ⟨s, he, hR⟩

/-- cmp.Compare[int64] -/
def S41 (x1 : Int) (y2 : Int) (w : World) (R : Int → World → Prop) : Prop :=
  C54 x1 w fun r3 vw4 =>
    C54 y2 vw4 fun r5 vw6 =>
      Br r3 (Br r5 (R 0 vw6) (R (-1) vw6)) (Br r5 (R 1 vw6) (Br (decide (x1 < y2)) (R (-1) vw6) (Br (decide (x1 > y2)) (R 1 vw6) (R 0 vw6))))
def pl41 : Plan := (.seq (.reg .seq) (.seq (.reg .seq) (.seq (.reg .seq) (.seq (.seq (.reg .seq) (.cond (.seq (.seq (.reg .seq) (.cond (.seq (.reg .seq) .leaf) .leaf)) (.seq (.reg .seq) .leaf)) .leaf)) (.seq (.seq (.reg .seq) (.cond (.seq (.reg .seq) .leaf) .leaf)) (.seq (.seq (.reg .seq) (.cond (.seq (.reg .seq) .leaf) .leaf)) (.seq (.seq (.reg .seq) (.cond (.seq (.reg .seq) .leaf) .leaf)) (.seq (.reg .seq) .leaf))))))))
set_option maxRecDepth 100000 in
theorem T41 (x1 : Int) (y2 : Int) (w : World) (R : Int → World → Prop) (h : S41 x1 y2 w R) : C41 x1 y2 w R := by
  have e : fnT Tryd.prog ⟨FF, MAY, (fun _ _ => False)⟩ pl41 Tryd.f41 [.int .i64 x1, .int .i64 y2] w [(.one (.int .i64))] (fun s w => R s w) = S41 x1 y2 w R := by kernel_rfl
  exact (fn_calls okF okM Tryd.func41 (by kernel_rfl) (by kernel_rfl) (e.mpr h)).mono fun _ _ ⟨s, he, hR⟩ => ⟨s, he, hR⟩

/-- foliant/order.rows$1 -/
def S40 (a1 : TyA60) (b2 : TyA60) (w : World) (R : Int → World → Prop) : Prop :=
  Nw w (.cells (Sig.cells LiA60 a1).toArray 61) fun vw3 =>
  Nw vw3 (.cells (Sig.cells LiA60 b2).toArray 61) fun vw4 =>
  Ld vw4 (((⟨vw3.heap.size, 0, none⟩ : Addr).add 2).add 1) (Value.int .i64) fun (x5 : Int) =>
  Ld vw4 (((⟨w.heap.size, 0, none⟩ : Addr).add 2).add 1) (Value.int .i64) fun (x6 : Int) =>
  C41 x5 x6 vw4 fun r7 vw8 =>
    R r7 vw8
def pl40 : Plan := (.seq (.reg .seq) (.seq (.reg .seq) .leaf))
set_option maxRecDepth 100000 in
theorem T40 (a1 : TyA60) (b2 : TyA60) (w : World) (R : Int → World → Prop) (h : S40 a1 b2 w R) : C40 a1 b2 w R := by
  have e : fnT Tryd.prog ⟨FF, MAY, (fun _ _ => False)⟩ pl40 Tryd.f40 [.agg (Sig.cells LiA60 a1).toArray, .agg (Sig.cells LiA60 b2).toArray] w [(.one (.int .i64))] (fun s w => R s w) = S40 a1 b2 w R := by kernel_rfl
  exact (fn_calls okF okM Tryd.func40 (by kernel_rfl) (by kernel_rfl) (e.mpr h)).mono fun _ _ ⟨s, he, hR⟩ => ⟨s, he, hR⟩

def S60_F40L1 (data1 : Slc) (a2 : Int) (s5 : Int) (I7 : Int → World → Prop) (I10 : Int → World → Prop) (s8 : Int) (vw9 : World) : Prop :=
  Br (decide (s8 > a2)) (0 ≤ s8 ∧ s8 < (data1.len : Nat) ∧ Nn data1.p fun a17 =>
    LdT vw9.drew (a17.add ((s8).toNat * 10)) 0 LiA60 fun (x18 : TyA60) =>
    0 ≤ (IntKind.i64.wrap (s8 - 1)) ∧ (IntKind.i64.wrap (s8 - 1)) < (data1.len : Nat) ∧ Nn data1.p fun a19 =>
    LdT vw9.drew (a19.add ((IntKind.i64.wrap (s8 - 1)).toNat * 10)) 0 LiA60 fun (x20 : TyA60) =>
    C40 x18 x20 vw9.drew fun r21 vw22 =>
      Br (decide (r21 < 0)) (∃ vS23 : World → Prop, vS23 vw22.drew ∧ 0 ≤ (IntKind.i64.wrap (s8 - 1)) ∧ (IntKind.i64.wrap (s8 - 1)) < (data1.len : Nat) ∧ Nn data1.p fun a24 =>
        LdST vS23 (a24.add ((IntKind.i64.wrap (s8 - 1)).toNat * 10)) 0 LiA60 fun (x25 : TyA60) =>
        0 ≤ s8 ∧ s8 < (data1.len : Nat) ∧ Nn data1.p fun a26 =>
        LdST vS23 (a26.add ((s8).toNat * 10)) 0 LiA60 fun (x27 : TyA60) =>
        0 ≤ s8 ∧ s8 < (data1.len : Nat) ∧ Nn data1.p fun a28 =>
        StT (a28.add ((s8).toNat * 10)) 0 LiA60 x25 vw22.drew fun vw29 =>
        0 ≤ (IntKind.i64.wrap (s8 - 1)) ∧ (IntKind.i64.wrap (s8 - 1)) < (data1.len : Nat) ∧ Nn data1.p fun a30 =>
        StT (a30.add ((IntKind.i64.wrap (s8 - 1)).toNat * 10)) 0 LiA60 x27 vw29 fun vw31 =>
        I10 (IntKind.i64.wrap (s8 - 1)) vw31) (I7 (IntKind.i64.wrap (s5 + 1)) vw22)) (I7 (IntKind.i64.wrap (s5 + 1)) vw9.drew)
def S60_F40L2 (data1 : Slc) (a2 : Int) (b3 : Int) (R : World → Prop) (I7 : Int → World → Prop) (s5 : Int) (vw6 : World) : Prop :=
  Br (decide (s5 < b3)) (Lp (σ := Int) (S60_F40L1 data1 a2 s5 I7) s5 vw6) (R vw6)
/-- slices.insertionSortCmpFunc[foliant/order.sign] -/
def S60_F40 (data1 : Slc) (a2 : Int) (b3 : Int) (w : World) (R : World → Prop) : Prop :=
  Lp (σ := Int) (S60_F40L2 data1 a2 b3 R) (IntKind.i64.wrap (a2 + 1)) w
def pl60_F40 : Plan := (.seq (.reg .seq) (.block (.loop [(8, (.one (.int .i64)))] [0, 1, 2, 3] (.seq (.seq (.reg .seq) (.cond .leaf .leaf)) (.seq (.block (.seq (.reg .seq) (.block (.loop [(9, (.one (.int .i64)))] [0, 1, 2, 3, 8] (.seq (.seq (.reg (.tail 14)) (.cond .leaf .leaf)) (.seq (.block (.reg (.held [15] (.take 0 (.take 1 (.take 2 (.take 3 (.take 4 (.take 5 (.take 6 (.take 7 (.take 8 (.take 9 (.take 10 (.take 11 (.take 12 (.take 13 (.take 14 (.eff 15 (some [17]) (.take 16 (.eff 17 (some []) .done))))))))))))))))))))) (.reg .seq))))))) (.reg .seq))))))
set_option maxRecDepth 100000 in
theorem T60_F40 (data1 : Slc) (a2 : Int) (b3 : Int) (w : World) (R : World → Prop) (h : S60_F40 data1 a2 b3 w R) : C60 data1 a2 b3 (.func (.func 40) #[] #[]) w R := by
  have e : fnT Tryd.prog ⟨FF, MAY, (fun _ _ => False)⟩ pl60_F40 Tryd.f60 [Slc.v data1, .int .i64 a2, .int .i64 b3, .func (.func 40) #[] #[]] w [] (fun _ w => R w) = S60_F40 data1 a2 b3 w R := by kernel_rfl
  exact (fn_calls okF okM Tryd.func60 (by kernel_rfl) (by kernel_rfl) (e.mpr h)).mono fun _ _ ⟨_, he, hR⟩ => ⟨he, hR⟩

def S88L1 (data1 : Slc) (a2 : Int) (b3 : Int) (n4 : Int) (R : World → Prop) (I8 : Int → World → Prop) (s6 : Int) (vw7 : World) : Prop :=
  Br (decide (s6 < n4)) (∃ vS9 : World → Prop, vS9 vw7.drew ∧ 0 ≤ (IntKind.i64.wrap (b3 + s6)) ∧ (IntKind.i64.wrap (b3 + s6)) < (data1.len : Nat) ∧ Nn data1.p fun a10 =>
    LdST vS9 (a10.add ((IntKind.i64.wrap (b3 + s6)).toNat * 10)) 0 LiA60 fun (x11 : TyA60) =>
    0 ≤ (IntKind.i64.wrap (a2 + s6)) ∧ (IntKind.i64.wrap (a2 + s6)) < (data1.len : Nat) ∧ Nn data1.p fun a12 =>
    LdST vS9 (a12.add ((IntKind.i64.wrap (a2 + s6)).toNat * 10)) 0 LiA60 fun (x13 : TyA60) =>
    0 ≤ (IntKind.i64.wrap (a2 + s6)) ∧ (IntKind.i64.wrap (a2 + s6)) < (data1.len : Nat) ∧ Nn data1.p fun a14 =>
    StT (a14.add ((IntKind.i64.wrap (a2 + s6)).toNat * 10)) 0 LiA60 x11 vw7.drew fun vw15 =>
    0 ≤ (IntKind.i64.wrap (b3 + s6)) ∧ (IntKind.i64.wrap (b3 + s6)) < (data1.len : Nat) ∧ Nn data1.p fun a16 =>
    StT (a16.add ((IntKind.i64.wrap (b3 + s6)).toNat * 10)) 0 LiA60 x13 vw15 fun vw17 =>
    I8 (IntKind.i64.wrap (s6 + 1)) vw17) (R vw7)
/-- slices.swapRangeCmpFunc[foliant/order.sign] -/
def S88 (data1 : Slc) (a2 : Int) (b3 : Int) (n4 : Int) (cmp5 : Value) (w : World) (R : World → Prop) : Prop :=
  Lp (σ := Int) (S88L1 data1 a2 b3 n4 R) 0 w
def pl88 : Plan := (.seq (.reg .seq) (.block (.loop [(10, (.one (.int .i64)))] [0, 1, 2, 3] (.seq (.seq (.reg .seq) (.cond .leaf .leaf)) (.seq (.block (.reg (.held [21] (.take 0 (.take 1 (.take 2 (.take 3 (.take 4 (.take 5 (.take 6 (.take 7 (.take 8 (.take 9 (.take 10 (.take 11 (.take 12 (.take 13 (.take 14 (.take 15 (.take 16 (.take 17 (.take 18 (.take 19 (.take 20 (.eff 21 (some [23]) (.take 22 (.eff 23 (some []) .done))))))))))))))))))))))))))) (.reg .seq))))))
set_option maxRecDepth 100000 in
theorem T88 (data1 : Slc) (a2 : Int) (b3 : Int) (n4 : Int) (cmp5 : Value) (w : World) (R : World → Prop) (h : S88 data1 a2 b3 n4 cmp5 w R) : C88 data1 a2 b3 n4 cmp5 w R := by
  have e : fnT Tryd.prog ⟨FF, MAY, (fun _ _ => False)⟩ pl88 Tryd.f88 [Slc.v data1, .int .i64 a2, .int .i64 b3, .int .i64 n4, cmp5] w [] (fun _ w => R w) = S88 data1 a2 b3 n4 cmp5 w R := by kernel_rfl
  exact (fn_calls okF okM Tryd.func88 (by kernel_rfl) (by kernel_rfl) (e.mpr h)).mono fun _ _ ⟨_, he, hR⟩ => ⟨he, hR⟩

def S78L1 (data1 : Slc) (m3 : Int) (cmp5 : Value) (R : World → Prop) (I13 : (Int × Int) → World → Prop) (s11 : Int × Int) (vw12 : World) : Prop :=
  Br (s11.1 != s11.2) (Br (decide (s11.1 > s11.2)) (C88 data1 (IntKind.i64.wrap (m3 - s11.1)) m3 s11.2 cmp5 vw12 fun vw14 =>
        I13 (IntKind.i64.wrap (s11.1 - s11.2), s11.2) vw14) (C88 data1 (IntKind.i64.wrap (m3 - s11.1)) (IntKind.i64.wrap ((IntKind.i64.wrap (m3 + s11.2)) - s11.1)) s11.1 cmp5 vw12 fun vw15 =>
        I13 (s11.1, IntKind.i64.wrap (s11.2 - s11.1)) vw15)) (C88 data1 (IntKind.i64.wrap (m3 - s11.1)) m3 s11.1 cmp5 vw12 fun vw16 =>
      R vw16)
/-- slices.rotateCmpFunc[foliant/order.sign] -/
def S78 (data1 : Slc) (a2 : Int) (m3 : Int) (b4 : Int) (cmp5 : Value) (w : World) (R : World → Prop) : Prop :=
  Lp (σ := Int × Int) (S78L1 data1 m3 cmp5 R) (IntKind.i64.wrap (m3 - a2), IntKind.i64.wrap (b4 - m3)) w
def pl78 : Plan := (.seq (.reg .seq) (.seq (.reg .seq) (.seq (.block (.loop [(10, (.one (.int .i64))), (11, (.one (.int .i64)))] [0, 2, 4] (.seq (.seq (.reg .seq) (.cond .leaf .leaf)) (.block (.seq (.reg .seq) (.cond (.seq (.reg .seq) (.reg .seq)) (.seq (.reg .seq) (.reg .seq)))))))) (.reg .seq))))
set_option maxRecDepth 100000 in
theorem T78 (data1 : Slc) (a2 : Int) (m3 : Int) (b4 : Int) (cmp5 : Value) (w : World) (R : World → Prop) (h : S78 data1 a2 m3 b4 cmp5 w R) : C78 data1 a2 m3 b4 cmp5 w R := by
  have e : fnT Tryd.prog ⟨FF, MAY, (fun _ _ => False)⟩ pl78 Tryd.f78 [Slc.v data1, .int .i64 a2, .int .i64 m3, .int .i64 b4, cmp5] w [] (fun _ w => R w) = S78 data1 a2 m3 b4 cmp5 w R := by kernel_rfl
  exact (fn_calls okF okM Tryd.func78 (by kernel_rfl) (by kernel_rfl) (e.mpr h)).mono fun _ _ ⟨_, he, hR⟩ => ⟨he, hR⟩

def S61_F40L1 (data1 : Slc) (s38 : Int × Int) (R : World → Prop) (I50 : Int → World → Prop) (s48 : Int) (vw49 : World) : Prop :=
  Br (decide (s48 < (IntKind.i64.wrap (s38.1 - 1)))) (∃ vS51 : World → Prop, vS51 vw49.drew ∧ 0 ≤ (IntKind.i64.wrap (s48 + 1)) ∧ (IntKind.i64.wrap (s48 + 1)) < (data1.len : Nat) ∧ Nn data1.p fun a52 =>
    LdST vS51 (a52.add ((IntKind.i64.wrap (s48 + 1)).toNat * 10)) 0 LiA60 fun (x53 : TyA60) =>
    0 ≤ s48 ∧ s48 < (data1.len : Nat) ∧ Nn data1.p fun a54 =>
    LdST vS51 (a54.add ((s48).toNat * 10)) 0 LiA60 fun (x55 : TyA60) =>
    0 ≤ s48 ∧ s48 < (data1.len : Nat) ∧ Nn data1.p fun a56 =>
    StT (a56.add ((s48).toNat * 10)) 0 LiA60 x53 vw49.drew fun vw57 =>
    0 ≤ (IntKind.i64.wrap (s48 + 1)) ∧ (IntKind.i64.wrap (s48 + 1)) < (data1.len : Nat) ∧ Nn data1.p fun a58 =>
    StT (a58.add ((IntKind.i64.wrap (s48 + 1)).toNat * 10)) 0 LiA60 x55 vw57 fun vw59 =>
    I50 (IntKind.i64.wrap (s48 + 1)) vw59) (R vw49)
def S61_F40L2 (data1 : Slc) (a2 : Int) (R : World → Prop) (I40 : (Int × Int) → World → Prop) (s38 : Int × Int) (vw39 : World) : Prop :=
  Br (decide (s38.1 < s38.2)) (0 ≤ (IntKind.i64.wrap (Int.fdiv (IntKind.u64.wrap (IntKind.i64.wrap (s38.1 + s38.2))) (2 ^ 1))) ∧ (IntKind.i64.wrap (Int.fdiv (IntKind.u64.wrap (IntKind.i64.wrap (s38.1 + s38.2))) (2 ^ 1))) < (data1.len : Nat) ∧ Nn data1.p fun a41 =>
    LdT vw39.drew (a41.add ((IntKind.i64.wrap (Int.fdiv (IntKind.u64.wrap (IntKind.i64.wrap (s38.1 + s38.2))) (2 ^ 1))).toNat * 10)) 0 LiA60 fun (x42 : TyA60) =>
    0 ≤ a2 ∧ a2 < (data1.len : Nat) ∧ Nn data1.p fun a43 =>
    LdT vw39.drew (a43.add ((a2).toNat * 10)) 0 LiA60 fun (x44 : TyA60) =>
    C40 x42 x44 vw39.drew fun r45 vw46 =>
      Br (decide (r45 < 0)) (Lt (IntKind.i64.wrap ((IntKind.i64.wrap (Int.fdiv (IntKind.u64.wrap (IntKind.i64.wrap (s38.1 + s38.2))) (2 ^ 1))) + 1)) fun (x47 : Int) =>
        I40 (x47, s38.2) vw46) (I40 (s38.1, IntKind.i64.wrap (Int.fdiv (IntKind.u64.wrap (IntKind.i64.wrap (s38.1 + s38.2))) (2 ^ 1))) vw46)) (Lp (σ := Int) (S61_F40L1 data1 s38 R) a2 vw39)
def S61_F40L3 (data1 : Slc) (s92 : Int × Int) (R : World → Prop) (I104 : Int → World → Prop) (s102 : Int) (vw103 : World) : Prop :=
  Br (decide (s102 > s92.1)) (∃ vS105 : World → Prop, vS105 vw103.drew ∧ 0 ≤ (IntKind.i64.wrap (s102 - 1)) ∧ (IntKind.i64.wrap (s102 - 1)) < (data1.len : Nat) ∧ Nn data1.p fun a106 =>
    LdST vS105 (a106.add ((IntKind.i64.wrap (s102 - 1)).toNat * 10)) 0 LiA60 fun (x107 : TyA60) =>
    0 ≤ s102 ∧ s102 < (data1.len : Nat) ∧ Nn data1.p fun a108 =>
    LdST vS105 (a108.add ((s102).toNat * 10)) 0 LiA60 fun (x109 : TyA60) =>
    0 ≤ s102 ∧ s102 < (data1.len : Nat) ∧ Nn data1.p fun a110 =>
    StT (a110.add ((s102).toNat * 10)) 0 LiA60 x107 vw103.drew fun vw111 =>
    0 ≤ (IntKind.i64.wrap (s102 - 1)) ∧ (IntKind.i64.wrap (s102 - 1)) < (data1.len : Nat) ∧ Nn data1.p fun a112 =>
    StT (a112.add ((IntKind.i64.wrap (s102 - 1)).toNat * 10)) 0 LiA60 x109 vw111 fun vw113 =>
    I104 (IntKind.i64.wrap (s102 - 1)) vw113) (R vw103)
def S61_F40L4 (data1 : Slc) (m3 : Int) (R : World → Prop) (I94 : (Int × Int) → World → Prop) (s92 : Int × Int) (vw93 : World) : Prop :=
  Br (decide (s92.1 < s92.2)) (0 ≤ m3 ∧ m3 < (data1.len : Nat) ∧ Nn data1.p fun a95 =>
    LdT vw93.drew (a95.add ((m3).toNat * 10)) 0 LiA60 fun (x96 : TyA60) =>
    0 ≤ (IntKind.i64.wrap (Int.fdiv (IntKind.u64.wrap (IntKind.i64.wrap (s92.1 + s92.2))) (2 ^ 1))) ∧ (IntKind.i64.wrap (Int.fdiv (IntKind.u64.wrap (IntKind.i64.wrap (s92.1 + s92.2))) (2 ^ 1))) < (data1.len : Nat) ∧ Nn data1.p fun a97 =>
    LdT vw93.drew (a97.add ((IntKind.i64.wrap (Int.fdiv (IntKind.u64.wrap (IntKind.i64.wrap (s92.1 + s92.2))) (2 ^ 1))).toNat * 10)) 0 LiA60 fun (x98 : TyA60) =>
    C40 x96 x98 vw93.drew fun r99 vw100 =>
      Br (!(decide (r99 < 0))) (Lt (IntKind.i64.wrap ((IntKind.i64.wrap (Int.fdiv (IntKind.u64.wrap (IntKind.i64.wrap (s92.1 + s92.2))) (2 ^ 1))) + 1)) fun (x101 : Int) =>
        I94 (x101, s92.2) vw100) (I94 (s92.1, IntKind.i64.wrap (Int.fdiv (IntKind.u64.wrap (IntKind.i64.wrap (s92.1 + s92.2))) (2 ^ 1))) vw100)) (Lp (σ := Int) (S61_F40L3 data1 s92 R) m3 vw93)
def S61_F40J1 (data1 : Slc) (a2 : Int) (b4 : Int) (x114 : Int) (s128 : Int × Int) (R : World → Prop) (s143 : Unit) (vw144 : World) : Prop :=
  Lt (decide ((IntKind.i64.wrap (Int.fdiv (IntKind.u64.wrap (IntKind.i64.wrap (a2 + b4))) (2 ^ 1))) < (IntKind.i64.wrap (x114 - s128.1)))) fun (x145 : Bool) =>
  Br x145 (Br (decide ((IntKind.i64.wrap (x114 - s128.1)) < b4)) (C61 data1 (IntKind.i64.wrap (Int.fdiv (IntKind.u64.wrap (IntKind.i64.wrap (a2 + b4))) (2 ^ 1))) (IntKind.i64.wrap (x114 - s128.1)) b4 (.func (.func 40) #[] #[]) vw144 fun vw146 =>
        R vw146) (R vw144)) (R vw144)
def S61_F40J2 (data1 : Slc) (a2 : Int) (b4 : Int) (x114 : Int) (s128 : Int × Int) (R : World → Prop) (s139 : Unit) (vw140 : World) : Prop :=
  Join (S61_F40J1 data1 a2 b4 x114 s128 R) fun (vJ147 : Unit → World → Prop) =>
    Br (decide (a2 < s128.1)) (Lt (decide (s128.1 < (IntKind.i64.wrap (Int.fdiv (IntKind.u64.wrap (IntKind.i64.wrap (a2 + b4))) (2 ^ 1))))) fun (x148 : Bool) =>
      Br x148 (C61 data1 a2 s128.1 (IntKind.i64.wrap (Int.fdiv (IntKind.u64.wrap (IntKind.i64.wrap (a2 + b4))) (2 ^ 1))) (.func (.func 40) #[] #[]) vw140 fun vw149 =>
          vJ147 () vw149) (vJ147 () vw140)) (vJ147 () vw140)
def S61_F40L5 (data1 : Slc) (a2 : Int) (m3 : Int) (b4 : Int) (x114 : Int) (R : World → Prop) (I130 : (Int × Int) → World → Prop) (s128 : Int × Int) (vw129 : World) : Prop :=
  Br (decide (s128.1 < s128.2)) (Lt (IntKind.i64.wrap (Int.fdiv (IntKind.u64.wrap (IntKind.i64.wrap (s128.1 + s128.2))) (2 ^ 1))) fun (x131 : Int) =>
    0 ≤ (IntKind.i64.wrap ((IntKind.i64.wrap (x114 - 1)) - x131)) ∧ (IntKind.i64.wrap ((IntKind.i64.wrap (x114 - 1)) - x131)) < (data1.len : Nat) ∧ Nn data1.p fun a132 =>
    LdT vw129.drew (a132.add ((IntKind.i64.wrap ((IntKind.i64.wrap (x114 - 1)) - x131)).toNat * 10)) 0 LiA60 fun (x133 : TyA60) =>
    0 ≤ x131 ∧ x131 < (data1.len : Nat) ∧ Nn data1.p fun a134 =>
    LdT vw129.drew (a134.add ((x131).toNat * 10)) 0 LiA60 fun (x135 : TyA60) =>
    C40 x133 x135 vw129.drew fun r136 vw137 =>
      Br (!(decide (r136 < 0))) (I130 (IntKind.i64.wrap (x131 + 1), s128.2) vw137) (I130 (s128.1, x131) vw137)) (Join (S61_F40J2 data1 a2 b4 x114 s128 R) fun (vJ150 : Unit → World → Prop) =>
      Br (decide (s128.1 < m3)) (Br (decide (m3 < (IntKind.i64.wrap (x114 - s128.1)))) (C78 data1 s128.1 m3 (IntKind.i64.wrap (x114 - s128.1)) (.func (.func 40) #[] #[]) vw129 fun vw151 =>
            vJ150 () vw151) (vJ150 () vw129)) (vJ150 () vw129))
def S61_F40J3 (data1 : Slc) (a2 : Int) (m3 : Int) (b4 : Int) (x114 : Int) (R : World → Prop) (s116 : Int × Int) (vw117 : World) : Prop :=
  Lp (σ := Int × Int) (S61_F40L5 data1 a2 m3 b4 x114 R) (s116.1, s116.2) vw117
/-- slices.symMergeCmpFunc[foliant/order.sign] -/
def S61_F40 (data1 : Slc) (a2 : Int) (m3 : Int) (b4 : Int) (w : World) (R : World → Prop) : Prop :=
  Br ((IntKind.i64.wrap (m3 - a2)) == 1) (Lp (σ := Int × Int) (S61_F40L2 data1 a2 R) (m3, b4) w) (Br ((IntKind.i64.wrap (b4 - m3)) == 1) (Lp (σ := Int × Int) (S61_F40L4 data1 m3 R) (a2, m3) w) (Lt (IntKind.i64.wrap ((IntKind.i64.wrap (Int.fdiv (IntKind.u64.wrap (IntKind.i64.wrap (a2 + b4))) (2 ^ 1))) + m3)) fun (x114 : Int) =>
      Join (S61_F40J3 data1 a2 m3 b4 x114 R) fun (vJ152 : (Int × Int) → World → Prop) =>
        Lt (decide (m3 > (IntKind.i64.wrap (Int.fdiv (IntKind.u64.wrap (IntKind.i64.wrap (a2 + b4))) (2 ^ 1))))) fun (x153 : Bool) =>
        Br x153 (vJ152 (IntKind.i64.wrap (x114 - b4), IntKind.i64.wrap (Int.fdiv (IntKind.u64.wrap (IntKind.i64.wrap (a2 + b4))) (2 ^ 1))) w) (vJ152 (a2, m3) w)))
def pl61_F40 : Plan := (.seq (.seq (.reg .seq) (.cond (.seq (.reg .seq) (.seq (.reg .seq) (.seq (.block (.loop [(10, (.one (.int .i64))), (11, (.one (.int .i64)))] [0, 1, 4] (.seq (.seq (.reg .seq) (.cond .leaf .leaf)) (.block (.seq (.reg .seq) (.seq (.reg (.tail 9)) (.cond (.reg .seq) (.reg .seq)))))))) (.seq (.seq (.reg .seq) (.block (.loop [(13, (.one (.int .i64)))] [0, 10] (.seq (.seq (.reg .seq) (.cond .leaf .leaf)) (.seq (.block (.reg (.held [15] (.take 0 (.take 1 (.take 2 (.take 3 (.take 4 (.take 5 (.take 6 (.take 7 (.take 8 (.take 9 (.take 10 (.take 11 (.take 12 (.take 13 (.take 14 (.eff 15 (some [17]) (.take 16 (.eff 17 (some []) .done))))))))))))))))))))) (.reg .seq)))))) .leaf)))) .leaf)) (.seq (.seq (.reg .seq) (.cond (.seq (.reg .seq) (.seq (.reg .seq) (.seq (.block (.loop [(14, (.one (.int .i64))), (15, (.one (.int .i64)))] [0, 2, 4] (.seq (.seq (.reg .seq) (.cond .leaf .leaf)) (.block (.seq (.reg .seq) (.seq (.reg (.tail 9)) (.cond (.reg .seq) (.reg .seq)))))))) (.seq (.seq (.reg .seq) (.block (.loop [(17, (.one (.int .i64)))] [0, 14] (.seq (.seq (.reg .seq) (.cond .leaf .leaf)) (.seq (.block (.reg (.held [15] (.take 0 (.take 1 (.take 2 (.take 3 (.take 4 (.take 5 (.take 6 (.take 7 (.take 8 (.take 9 (.take 10 (.take 11 (.take 12 (.take 13 (.take 14 (.eff 15 (some [17]) (.take 16 (.eff 17 (some []) .done))))))))))))))))))))) (.reg .seq)))))) .leaf)))) .leaf)) (.seq (.reg .seq) (.seq (.reg .seq) (.seq (.reg .seq) (.join [(20, (.one (.int .i64))), (21, (.one (.int .i64)))] [0, 1, 2, 3, 4, 18, 19] (.seq (.reg .seq) (.cond (.seq (.reg .seq) (.reg .seq)) (.seq (.reg .seq) (.reg .seq)))) (.seq (.reg .seq) (.seq (.block (.loop [(20, (.one (.int .i64))), (21, (.one (.int .i64)))] [0, 1, 2, 3, 4, 18, 19, 22] (.seq (.seq (.reg .seq) (.cond .leaf .leaf)) (.block (.seq (.reg .seq) (.seq (.reg (.tail 11)) (.cond (.reg .seq) (.reg .seq)))))))) (.seq (.reg .seq) (.join [] [0, 1, 3, 4, 18, 20, 24] (.seq (.reg .seq) (.cond (.reg .seq) .leaf)) (.join [] [0, 3, 4, 18, 24] (.seq (.reg .seq) (.cond (.reg .seq) .leaf)) (.seq (.reg .seq) (.cond (.reg .seq) .leaf)))))))))))))
set_option maxRecDepth 100000 in
theorem T61_F40 (data1 : Slc) (a2 : Int) (m3 : Int) (b4 : Int) (w : World) (R : World → Prop) (h : S61_F40 data1 a2 m3 b4 w R) : C61 data1 a2 m3 b4 (.func (.func 40) #[] #[]) w R := by
  have e : fnT Tryd.prog ⟨FF, MAY, (fun _ _ => False)⟩ pl61_F40 Tryd.f61 [Slc.v data1, .int .i64 a2, .int .i64 m3, .int .i64 b4, .func (.func 40) #[] #[]] w [] (fun _ w => R w) = S61_F40 data1 a2 m3 b4 w R := by kernel_rfl
  exact (fn_calls okF okM Tryd.func61 (by kernel_rfl) (by kernel_rfl) (e.mpr h)).mono fun _ _ ⟨_, he, hR⟩ => ⟨he, hR⟩

def S53_F40L1 (data1 : Slc) (n2 : Int) (s13 : Int) (I15 : Int → World → Prop) (I22 : (Int × Int) → World → Prop) (s20 : Int × Int) (vw21 : World) : Prop :=
  Br (decide (s20.2 ≤ n2)) (C61 data1 s20.1 (IntKind.i64.wrap (s20.1 + s13)) s20.2 (.func (.func 40) #[] #[]) vw21 fun vw23 =>
      I22 (s20.2, IntKind.i64.wrap (s20.2 + (IntKind.i64.wrap (2 * s13)))) vw23) (Br (decide ((IntKind.i64.wrap (s20.1 + s13)) < n2)) (C61 data1 s20.1 (IntKind.i64.wrap (s20.1 + s13)) n2 (.func (.func 40) #[] #[]) vw21 fun vw24 =>
        I15 (IntKind.i64.wrap (s13 * 2)) vw24) (I15 (IntKind.i64.wrap (s13 * 2)) vw21))
def S53_F40L2 (data1 : Slc) (n2 : Int) (R : World → Prop) (I15 : Int → World → Prop) (s13 : Int) (vw14 : World) : Prop :=
  Br (decide (s13 < n2)) (Lp (σ := Int × Int) (S53_F40L1 data1 n2 s13 I15) (0, IntKind.i64.wrap (2 * s13)) vw14) (R vw14)
def S53_F40L3 (data1 : Slc) (n2 : Int) (R : World → Prop) (I10 : (Int × Int) → World → Prop) (s8 : Int × Int) (vw9 : World) : Prop :=
  Br (decide (s8.2 ≤ n2)) (C60 data1 s8.1 s8.2 (.func (.func 40) #[] #[]) vw9 fun vw11 =>
      I10 (s8.2, IntKind.i64.wrap (s8.2 + 20)) vw11) (C60 data1 s8.1 n2 (.func (.func 40) #[] #[]) vw9 fun vw12 =>
      Lp (σ := Int) (S53_F40L2 data1 n2 R) 20 vw12)
/-- slices.stableCmpFunc[foliant/order.sign] -/
def S53_F40 (data1 : Slc) (n2 : Int) (w : World) (R : World → Prop) : Prop :=
  Lp (σ := Int × Int) (S53_F40L3 data1 n2 R) (0, 20) w
def pl53_F40 : Plan := (.seq (.reg .seq) (.seq (.reg .seq) (.seq (.block (.loop [(7, (.one (.int .i64))), (8, (.one (.int .i64)))] [0, 1, 2, 6] (.seq (.seq (.reg .seq) (.cond .leaf .leaf)) (.block (.seq (.reg .seq) (.seq (.reg .seq) (.reg .seq))))))) (.seq (.reg .seq) (.block (.loop [(6, (.one (.int .i64)))] [0, 1, 2] (.seq (.seq (.reg .seq) (.cond .leaf .leaf)) (.block (.seq (.reg .seq) (.seq (.block (.loop [(7, (.one (.int .i64))), (8, (.one (.int .i64)))] [0, 1, 2, 6] (.seq (.seq (.reg .seq) (.cond .leaf .leaf)) (.block (.seq (.reg .seq) (.seq (.reg .seq) (.reg .seq))))))) (.seq (.seq (.reg .seq) (.seq (.reg .seq) (.cond (.reg .seq) .leaf))) (.reg .seq))))))))))))
set_option maxRecDepth 100000 in
theorem T53_F40 (data1 : Slc) (n2 : Int) (w : World) (R : World → Prop) (h : S53_F40 data1 n2 w R) : C53 data1 n2 (.func (.func 40) #[] #[]) w R := by
  have e : fnT Tryd.prog ⟨FF, MAY, (fun _ _ => False)⟩ pl53_F40 Tryd.f53 [Slc.v data1, .int .i64 n2, .func (.func 40) #[] #[]] w [] (fun _ w => R w) = S53_F40 data1 n2 w R := by kernel_rfl
  exact (fn_calls okF okM Tryd.func53 (by kernel_rfl) (by kernel_rfl) (e.mpr h)).mono fun _ _ ⟨_, he, hR⟩ => ⟨he, hR⟩

/-- slices.SortStableFunc[[]foliant/order.sign,foliant/order.sign] -/
def S39_F40 (x1 : Slc) (w : World) (R : World → Prop) : Prop :=
  C53 x1 ((x1.len : Nat) : Int) (.func (.func 40) #[] #[]) w fun vw3 =>
    R vw3
def pl39_F40 : Plan := (.reg .seq)
set_option maxRecDepth 100000 in
theorem T39_F40 (x1 : Slc) (w : World) (R : World → Prop) (h : S39_F40 x1 w R) : C39 x1 (.func (.func 40) #[] #[]) w R := by
  have e : fnT Tryd.prog ⟨FF, MAY, (fun _ _ => False)⟩ pl39_F40 Tryd.f39 [Slc.v x1, .func (.func 40) #[] #[]] w [] (fun _ w => R w) = S39_F40 x1 w R := by kernel_rfl
  exact (fn_calls okF okM Tryd.func39 (by kernel_rfl) (by kernel_rfl) (e.mpr h)).mono fun _ _ ⟨_, he, hR⟩ => ⟨he, hR⟩

/-- foliant/order.bound -/
def S51 (n1 : Int) (w : World) (R : Int → World → Prop) : Prop :=
  Lt ((if 1073741824 < (if (-1073741824) > n1 then (-1073741824) else n1) then 1073741824 else (if (-1073741824) > n1 then (-1073741824) else n1))) fun (x2 : Int) =>
  R x2 w
def pl51 : Plan := (.seq (.reg .seq) (.seq (.reg .seq) .leaf))
set_option maxRecDepth 100000 in
theorem T51 (n1 : Int) (w : World) (R : Int → World → Prop) (h : S51 n1 w R) : C51 n1 w R := by
  have e : fnT Tryd.prog ⟨FF, MAY, (fun _ _ => False)⟩ pl51 Tryd.f51 [.int .i64 n1] w [(.one (.int .i64))] (fun s w => R s w) = S51 n1 w R := by kernel_rfl
  exact (fn_calls okF okM Tryd.func51 (by kernel_rfl) (by kernel_rfl) (e.mpr h)).mono fun _ _ ⟨s, he, hR⟩ => ⟨s, he, hR⟩

/-- foliant/order.signed -/
def S31 (g1 : TyA31) (vat2 : Int) (w : World) (R : (TyA60) → World → Prop) : Prop :=
  Nw w (.cells (Sig.cells LiA31 g1).toArray 32) fun vw3 =>
  Nw vw3 (.cells #[.int .i64 0, .string ((⟨#[]⟩ : ByteArray)), .int .i64 0, .int .i64 0, .int .i64 0, .int .i64 0, .int .i64 0, .string ((⟨#[]⟩ : ByteArray)), .int .i64 0, .int .i64 0] 61) fun vw4 =>
  ∃ vS5 : World → Prop, vS5 vw4.drew ∧ LdS vS5 ((⟨w.heap.size, 0, none⟩ : Addr).add 2) (Value.int .i64) fun (x6 : Int) =>
  LdS vS5 (((⟨w.heap.size, 0, none⟩ : Addr).add 2).add 1) (Value.int .i64) fun (x7 : Int) =>
  C51 x6 vw4.drew fun r8 vw9 =>
    vS5 vw9 ∧ C51 x7 vw9 fun r10 vw11 =>
      St vw11 ((⟨w.heap.size, 0, none⟩ : Addr).add 2) (.int .i64 r8) fun vw12 =>
      St vw12 (((⟨w.heap.size, 0, none⟩ : Addr).add 2).add 1) (.int .i64 r10) fun vw13 =>
      ∃ vS14 : World → Prop, vS14 vw13.drew ∧ LdS vS14 ((⟨w.heap.size, 0, none⟩ : Addr).add 4) (Value.int .i64) fun (x15 : Int) =>
      LdS vS14 (((⟨w.heap.size, 0, none⟩ : Addr).add 4).add 1) (Value.int .i64) fun (x16 : Int) =>
      C51 x15 vw13.drew fun r17 vw18 =>
        vS14 vw18 ∧ C51 x16 vw18 fun r19 vw20 =>
          St vw20 ((⟨w.heap.size, 0, none⟩ : Addr).add 4) (.int .i64 r17) fun vw21 =>
          St vw21 (((⟨w.heap.size, 0, none⟩ : Addr).add 4).add 1) (.int .i64 r19) fun vw22 =>
          Ld vw22 ((⟨w.heap.size, 0, none⟩ : Addr).add 6) (Value.int .i64) fun (x23 : Int) =>
          C51 x23 vw22 fun r24 vw25 =>
            St vw25 ((⟨w.heap.size, 0, none⟩ : Addr).add 6) (.int .i64 (if 0 > r24 then 0 else r24)) fun vw26 =>
            LdT vw26 (⟨w.heap.size, 0, none⟩ : Addr) 0 LiA31 fun (x27 : TyA31) =>
            StT (⟨vw3.heap.size, 0, none⟩ : Addr) 0 LiA60 ((x27.1, x27.2.1, x27.2.2.1, x27.2.2.2.1, x27.2.2.2.2.1, x27.2.2.2.2.2.1, x27.2.2.2.2.2.2.1, x27.2.2.2.2.2.2.2.1, x27.2.2.2.2.2.2.2.2, vat2) : TyA60) vw26 fun vw28 =>
            LdT vw28 (⟨vw3.heap.size, 0, none⟩ : Addr) 0 LiA60 fun (x29 : TyA60) =>
            R x29 vw28
def pl31 : Plan := (.seq (.reg .seq) (.seq (.reg (.held [7] (.take 0 (.take 1 (.take 2 (.take 4 (.take 5 (.take 6 (.eff 3 none (.eff 7 (some [8]) (.eff 8 (some [10]) (.take 9 (.eff 10 (some []) .done))))))))))))) (.seq (.reg (.held [7] (.take 0 (.take 1 (.take 2 (.take 4 (.take 5 (.take 6 (.eff 3 none (.eff 7 (some [8]) (.eff 8 (some [10]) (.take 9 (.eff 10 (some []) .done))))))))))))) (.seq (.reg .seq) (.seq (.reg .seq) .leaf)))))
set_option maxRecDepth 100000 in
theorem T31 (g1 : TyA31) (vat2 : Int) (w : World) (R : (TyA60) → World → Prop) (h : S31 g1 vat2 w R) : C31 g1 vat2 w R := by
  have e : fnT Tryd.prog ⟨FF, MAY, (fun _ _ => False)⟩ pl31 Tryd.f31 [.agg (Sig.cells LiA31 g1).toArray, .int .i64 vat2] w [(.agg [(.int .i64), .str, (.int .i64), (.int .i64), (.int .i64), (.int .i64), (.int .i64), .str, (.int .i64), (.int .i64)])] (fun s w => R s w) = S31 g1 vat2 w R := by kernel_rfl
  exact (fn_calls okF okM Tryd.func31 (by kernel_rfl) (by kernel_rfl) (e.mpr h)).mono fun _ _ ⟨s, he, hR⟩ => ⟨s, he, hR⟩

/-- (foliant/order.sign).box -/
def S32 (x1 : TyA60) (w : World) (R : (Int × Int × Int × Int) → World → Prop) : Prop :=
  Nw w (.cells (Sig.cells LiA60 x1).toArray 61) fun vw2 =>
  Nw vw2 (.cells #[.int .i64 0, .int .i64 0, .int .i64 0, .int .i64 0] 27) fun vw3 =>
  Ld vw3 ((⟨w.heap.size, 0, none⟩ : Addr).add 2) (Value.int .i64) fun (x4 : Int) =>
  Ld vw3 ((⟨w.heap.size, 0, none⟩ : Addr).add 4) (Value.int .i64) fun (x5 : Int) =>
  Ld vw3 (((⟨w.heap.size, 0, none⟩ : Addr).add 2).add 1) (Value.int .i64) fun (x6 : Int) =>
  Ld vw3 (((⟨w.heap.size, 0, none⟩ : Addr).add 4).add 1) (Value.int .i64) fun (x7 : Int) =>
  Ld vw3 ((⟨w.heap.size, 0, none⟩ : Addr).add 2) (Value.int .i64) fun (x8 : Int) =>
  Ld vw3 ((⟨w.heap.size, 0, none⟩ : Addr).add 4) (Value.int .i64) fun (x9 : Int) =>
  Ld vw3 (((⟨w.heap.size, 0, none⟩ : Addr).add 2).add 1) (Value.int .i64) fun (x10 : Int) =>
  Ld vw3 (((⟨w.heap.size, 0, none⟩ : Addr).add 4).add 1) (Value.int .i64) fun (x11 : Int) =>
  Ld vw3 ((⟨w.heap.size, 0, none⟩ : Addr).add 6) (Value.int .i64) fun (x12 : Int) =>
  St vw3 (⟨vw2.heap.size, 0, none⟩ : Addr) (.int .i64 (if x5 < x4 then x5 else x4)) fun vw13 =>
  St vw13 ((⟨vw2.heap.size, 0, none⟩ : Addr).add 1) (.int .i64 (if x7 < x6 then x7 else x6)) fun vw14 =>
  St vw14 ((⟨vw2.heap.size, 0, none⟩ : Addr).add 2) (.int .i64 (if x9 > x8 then x9 else x8)) fun vw15 =>
  St vw15 ((⟨vw2.heap.size, 0, none⟩ : Addr).add 3) (.int .i64 (IntKind.i64.wrap ((if x11 > x10 then x11 else x10) + x12))) fun vw16 =>
  Ld vw16 (⟨vw2.heap.size, 0, none⟩ : Addr) (Value.int .i64) fun (x17 : Int) =>
  Ld vw16 ((⟨vw2.heap.size, 0, none⟩ : Addr).add 1) (Value.int .i64) fun (x18 : Int) =>
  Ld vw16 ((⟨vw2.heap.size, 0, none⟩ : Addr).add 2) (Value.int .i64) fun (x19 : Int) =>
  Ld vw16 ((⟨vw2.heap.size, 0, none⟩ : Addr).add 3) (Value.int .i64) fun (x20 : Int) =>
  R (x17, x18, x19, x20) vw16
def pl32 : Plan := (.seq (.reg .seq) (.seq (.reg .seq) .leaf))
set_option maxRecDepth 100000 in
theorem T32 (x1 : TyA60) (w : World) (R : (Int × Int × Int × Int) → World → Prop) (h : S32 x1 w R) : C32 x1 w R := by
  have e : fnT Tryd.prog ⟨FF, MAY, (fun _ _ => False)⟩ pl32 Tryd.f32 [.agg (Sig.cells LiA60 x1).toArray] w [(.agg [(.int .i64), (.int .i64), (.int .i64), (.int .i64)])] (fun s w => R s w) = S32 x1 w R := by kernel_rfl
  exact (fn_calls okF okM Tryd.func32 (by kernel_rfl) (by kernel_rfl) (e.mpr h)).mono fun _ _ ⟨s, he, hR⟩ => ⟨s, he, hR⟩

/-- foliant/order.Box -/
def S11 (g1 : TyA31) (w : World) (R : (Int × Int × Int × Int) → World → Prop) : Prop :=
  Nw w (.cells (Sig.cells LiA31 g1).toArray 32) fun vw2 =>
  Nw vw2 (.cells #[.int .i64 0, .int .i64 0, .int .i64 0, .int .i64 0] 27) fun vw3 =>
  LdT vw3 (⟨w.heap.size, 0, none⟩ : Addr) 0 LiA31 fun (x4 : TyA31) =>
  C31 x4 0 vw3 fun r5 vw6 =>
    C32 r5 vw6 fun r7 vw8 =>
      St vw8 (⟨vw2.heap.size, 0, none⟩ : Addr) (.int .i64 (r7.1)) fun vw9 =>
      St vw9 ((⟨vw2.heap.size, 0, none⟩ : Addr).add 1) (.int .i64 (r7.2.1)) fun vw10 =>
      St vw10 ((⟨vw2.heap.size, 0, none⟩ : Addr).add 2) (.int .i64 (r7.2.2.1)) fun vw11 =>
      St vw11 ((⟨vw2.heap.size, 0, none⟩ : Addr).add 3) (.int .i64 (r7.2.2.2)) fun vw12 =>
      Ld vw12 (⟨vw2.heap.size, 0, none⟩ : Addr) (Value.int .i64) fun (x13 : Int) =>
      Ld vw12 ((⟨vw2.heap.size, 0, none⟩ : Addr).add 1) (Value.int .i64) fun (x14 : Int) =>
      Ld vw12 ((⟨vw2.heap.size, 0, none⟩ : Addr).add 2) (Value.int .i64) fun (x15 : Int) =>
      Ld vw12 ((⟨vw2.heap.size, 0, none⟩ : Addr).add 3) (Value.int .i64) fun (x16 : Int) =>
      R (x13, x14, x15, x16) vw12
def pl11 : Plan := (.seq (.reg .seq) (.seq (.reg .seq) .leaf))
set_option maxRecDepth 100000 in
theorem T11 (g1 : TyA31) (w : World) (R : (Int × Int × Int × Int) → World → Prop) (h : S11 g1 w R) : C11 g1 w R := by
  have e : fnT Tryd.prog ⟨FF, MAY, (fun _ _ => False)⟩ pl11 Tryd.f11 [.agg (Sig.cells LiA31 g1).toArray] w [(.agg [(.int .i64), (.int .i64), (.int .i64), (.int .i64)])] (fun s w => R s w) = S11 g1 w R := by kernel_rfl
  exact (fn_calls okF okM Tryd.func11 (by kernel_rfl) (by kernel_rfl) (e.mpr h)).mono fun _ _ ⟨s, he, hR⟩ => ⟨s, he, hR⟩

/-- foliant/order.around -/
def S48 (a1 : Int × Int × Int × Int) (b2 : Int × Int × Int × Int) (w : World) (R : (Int × Int × Int × Int) → World → Prop) : Prop :=
  Nw w (.cells #[.int .i64 (a1.1), .int .i64 (a1.2.1), .int .i64 (a1.2.2.1), .int .i64 (a1.2.2.2)] 27) fun vw3 =>
  Nw vw3 (.cells #[.int .i64 (b2.1), .int .i64 (b2.2.1), .int .i64 (b2.2.2.1), .int .i64 (b2.2.2.2)] 27) fun vw4 =>
  Nw vw4 (.cells #[.int .i64 0, .int .i64 0, .int .i64 0, .int .i64 0] 27) fun vw5 =>
  Ld vw5 (⟨w.heap.size, 0, none⟩ : Addr) (Value.int .i64) fun (x6 : Int) =>
  Ld vw5 (⟨vw3.heap.size, 0, none⟩ : Addr) (Value.int .i64) fun (x7 : Int) =>
  Ld vw5 ((⟨w.heap.size, 0, none⟩ : Addr).add 1) (Value.int .i64) fun (x8 : Int) =>
  Ld vw5 ((⟨vw3.heap.size, 0, none⟩ : Addr).add 1) (Value.int .i64) fun (x9 : Int) =>
  Ld vw5 ((⟨w.heap.size, 0, none⟩ : Addr).add 2) (Value.int .i64) fun (x10 : Int) =>
  Ld vw5 ((⟨vw3.heap.size, 0, none⟩ : Addr).add 2) (Value.int .i64) fun (x11 : Int) =>
  Ld vw5 ((⟨w.heap.size, 0, none⟩ : Addr).add 3) (Value.int .i64) fun (x12 : Int) =>
  Ld vw5 ((⟨vw3.heap.size, 0, none⟩ : Addr).add 3) (Value.int .i64) fun (x13 : Int) =>
  St vw5 (⟨vw4.heap.size, 0, none⟩ : Addr) (.int .i64 (if x7 < x6 then x7 else x6)) fun vw14 =>
  St vw14 ((⟨vw4.heap.size, 0, none⟩ : Addr).add 1) (.int .i64 (if x9 < x8 then x9 else x8)) fun vw15 =>
  St vw15 ((⟨vw4.heap.size, 0, none⟩ : Addr).add 2) (.int .i64 (if x11 > x10 then x11 else x10)) fun vw16 =>
  St vw16 ((⟨vw4.heap.size, 0, none⟩ : Addr).add 3) (.int .i64 (if x13 > x12 then x13 else x12)) fun vw17 =>
  Ld vw17 (⟨vw4.heap.size, 0, none⟩ : Addr) (Value.int .i64) fun (x18 : Int) =>
  Ld vw17 ((⟨vw4.heap.size, 0, none⟩ : Addr).add 1) (Value.int .i64) fun (x19 : Int) =>
  Ld vw17 ((⟨vw4.heap.size, 0, none⟩ : Addr).add 2) (Value.int .i64) fun (x20 : Int) =>
  Ld vw17 ((⟨vw4.heap.size, 0, none⟩ : Addr).add 3) (Value.int .i64) fun (x21 : Int) =>
  R (x18, x19, x20, x21) vw17
def pl48 : Plan := (.seq (.reg .seq) (.seq (.reg .seq) .leaf))
set_option maxRecDepth 100000 in
theorem T48 (a1 : Int × Int × Int × Int) (b2 : Int × Int × Int × Int) (w : World) (R : (Int × Int × Int × Int) → World → Prop) (h : S48 a1 b2 w R) : C48 (a1.1, a1.2.1, a1.2.2.1, a1.2.2.2) (b2.1, b2.2.1, b2.2.2.1, b2.2.2.2) w R := by
  have e : fnT Tryd.prog ⟨FF, MAY, (fun _ _ => False)⟩ pl48 Tryd.f48 [.agg #[.int .i64 (a1.1), .int .i64 (a1.2.1), .int .i64 (a1.2.2.1), .int .i64 (a1.2.2.2)], .agg #[.int .i64 (b2.1), .int .i64 (b2.2.1), .int .i64 (b2.2.2.1), .int .i64 (b2.2.2.2)]] w [(.agg [(.int .i64), (.int .i64), (.int .i64), (.int .i64)])] (fun s w => R s w) = S48 a1 b2 w R := by kernel_rfl
  exact (fn_calls okF okM Tryd.func48 (by kernel_rfl) (by kernel_rfl) (e.mpr h)).mono fun _ _ ⟨s, he, hR⟩ => ⟨s, he, hR⟩



/-- (foliant/order.sign).blank -/
def S46 (x1 : TyA60) (w : World) (R : Bool → World → Prop) : Prop :=
  Nw w (.cells (Sig.cells LiA60 x1).toArray 61) fun vw2 =>
  Ld vw2 ((⟨w.heap.size, 0, none⟩ : Addr).add 1) Value.string fun (x3 : ByteArray) =>
  C58 x3 (⟨#[9, 10, 13, 32]⟩ : ByteArray) vw2 fun r4 vw5 =>
    R (r4.toList == (⟨#[]⟩ : ByteArray).toList) vw5
def pl46 : Plan := (.seq (.reg .seq) (.seq (.reg .seq) .leaf))
set_option maxRecDepth 100000 in
theorem T46 (x1 : TyA60) (w : World) (R : Bool → World → Prop) (h : S46 x1 w R) : C46 x1 w R := by
  have e : fnT Tryd.prog ⟨FF, MAY, (fun _ _ => False)⟩ pl46 Tryd.f46 [.agg (Sig.cells LiA60 x1).toArray] w [(.one .bool)] (fun s w => R s w) = S46 x1 w R := by kernel_rfl
  exact (fn_calls okF okM Tryd.func46 (by kernel_rfl) (by kernel_rfl) (e.mpr h)).mono fun _ _ ⟨s, he, hR⟩ => ⟨s, he, hR⟩

/-- foliant/order.goesOn -/
def S47 (a1 : TyA60) (b2 : TyA60) (w : World) (R : Bool → World → Prop) : Prop :=
  Nw w (.cells (Sig.cells LiA60 a1).toArray 61) fun vw3 =>
  Nw vw3 (.cells (Sig.cells LiA60 b2).toArray 61) fun vw4 =>
  Ld vw4 ((⟨vw3.heap.size, 0, none⟩ : Addr).add 2) (Value.int .i64) fun (x5 : Int) =>
  Ld vw4 ((⟨w.heap.size, 0, none⟩ : Addr).add 4) (Value.int .i64) fun (x6 : Int) =>
  LdT vw4 (⟨w.heap.size, 0, none⟩ : Addr) 0 LiA60 fun (x7 : TyA60) =>
  C46 x7 vw4 fun r8 vw9 =>
    Br (!r8) (Ld vw9 ((⟨w.heap.size, 0, none⟩ : Addr).add 6) (Value.int .i64) fun (x10 : Int) =>
      Br (decide ((IntKind.i64.wrap (x5 - x6)) ≤ (IntKind.i64.wrap (Int.tdiv x10 4)))) (Ld vw9 ((⟨w.heap.size, 0, none⟩ : Addr).add 6) (Value.int .i64) fun (x11 : Int) =>
        R (decide ((IntKind.i64.wrap (x5 - x6)) ≥ (IntKind.i64.wrap (0 - x11)))) vw9) (R false vw9)) (R false vw9)
def pl47 : Plan := (.seq (.reg .seq) (.seq (.reg .seq) (.seq (.reg .seq) .leaf)))
set_option maxRecDepth 100000 in
theorem T47 (a1 : TyA60) (b2 : TyA60) (w : World) (R : Bool → World → Prop) (h : S47 a1 b2 w R) : C47 a1 b2 w R := by
  have e : fnT Tryd.prog ⟨FF, MAY, (fun _ _ => False)⟩ pl47 Tryd.f47 [.agg (Sig.cells LiA60 a1).toArray, .agg (Sig.cells LiA60 b2).toArray] w [(.one .bool)] (fun s w => R s w) = S47 a1 b2 w R := by kernel_rfl
  exact (fn_calls okF okM Tryd.func47 (by kernel_rfl) (by kernel_rfl) (e.mpr h)).mono fun _ _ ⟨s, he, hR⟩ => ⟨s, he, hR⟩

def S44L1 (vals1 : Slc) (R : Int → World → Prop) (I4 : Int → World → Prop) (s2 : Int) (vw3 : World) : Prop :=
  Br (decide (s2 < ((vals1.len : Nat) : Int))) (0 ≤ s2 ∧ s2 < (vals1.len : Nat) ∧ Nn vals1.p fun a5 =>
    Ld vw3 (a5.add ((s2).toNat * 1)) (Value.int .i64) fun (x6 : Int) =>
    Br (x6 != 0) (R x6 vw3) (I4 (IntKind.i64.wrap (s2 + 1)) vw3)) (R 0 vw3)
/-- cmp.Or[int] -/
def S44 (vals1 : Slc) (w : World) (R : Int → World → Prop) : Prop :=
  Lp (σ := Int) (S44L1 vals1 R) 0 w
def pl44 : Plan := (.seq (.reg .seq) (.seq (.reg .seq) (.seq (.seq (.reg .seq) (.block (.loop [(8, (.one (.int .i64)))] [3, 6, 7] (.seq (.reg .seq) (.seq (.cond .leaf .leaf) (.seq (.block (.seq (.reg .seq) (.seq (.reg .seq) (.cond (.seq (.reg .seq) .leaf) .leaf)))) (.reg .seq))))))) (.seq (.reg .seq) .leaf))))
set_option maxRecDepth 100000 in
theorem T44 (vals1 : Slc) (w : World) (R : Int → World → Prop) (h : S44 vals1 w R) : C44 vals1 w R := by
  have e : fnT Tryd.prog ⟨FF, MAY, (fun _ _ => False)⟩ pl44 Tryd.f44 [Slc.v vals1] w [(.one (.int .i64))] (fun s w => R s w) = S44 vals1 w R := by kernel_rfl
  exact (fn_calls okF okM Tryd.func44 (by kernel_rfl) (by kernel_rfl) (e.mpr h)).mono fun _ _ ⟨s, he, hR⟩ => ⟨s, he, hR⟩

/-- cmp.isNaN[int] -/
def S57 (x1 : Int) (w : World) (R : Bool → World → Prop) : Prop :=
  R (x1 != x1) w
def pl57 : Plan := (.seq (.reg .seq) (.seq (.reg .seq) .leaf))
set_option maxRecDepth 100000 in
theorem T57 (x1 : Int) (w : World) (R : Bool → World → Prop) (h : S57 x1 w R) : C57 x1 w R := by
  have e : fnT Tryd.prog ⟨FF, MAY, (fun _ _ => False)⟩ pl57 Tryd.f57 [.int .i64 x1] w [(.one .bool)] (fun s w => R s w) = S57 x1 w R := by kernel_rfl
  exact (fn_calls okF okM Tryd.func57 (by kernel_rfl) (by kernel_rfl) (e.mpr h)).mono fun _ _ ⟨s, he, hR⟩ => ⟨s, he, hR⟩

/-- cmp.Compare[int] -/
def S45 (x1 : Int) (y2 : Int) (w : World) (R : Int → World → Prop) : Prop :=
  C57 x1 w fun r3 vw4 =>
    C57 y2 vw4 fun r5 vw6 =>
      Br r3 (Br r5 (R 0 vw6) (R (-1) vw6)) (Br r5 (R 1 vw6) (Br (decide (x1 < y2)) (R (-1) vw6) (Br (decide (x1 > y2)) (R 1 vw6) (R 0 vw6))))
def pl45 : Plan := (.seq (.reg .seq) (.seq (.reg .seq) (.seq (.reg .seq) (.seq (.seq (.reg .seq) (.cond (.seq (.seq (.reg .seq) (.cond (.seq (.reg .seq) .leaf) .leaf)) (.seq (.reg .seq) .leaf)) .leaf)) (.seq (.seq (.reg .seq) (.cond (.seq (.reg .seq) .leaf) .leaf)) (.seq (.seq (.reg .seq) (.cond (.seq (.reg .seq) .leaf) .leaf)) (.seq (.seq (.reg .seq) (.cond (.seq (.reg .seq) .leaf) .leaf)) (.seq (.reg .seq) .leaf))))))))
set_option maxRecDepth 100000 in
theorem T45 (x1 : Int) (y2 : Int) (w : World) (R : Int → World → Prop) (h : S45 x1 y2 w R) : C45 x1 y2 w R := by
  have e : fnT Tryd.prog ⟨FF, MAY, (fun _ _ => False)⟩ pl45 Tryd.f45 [.int .i64 x1, .int .i64 y2] w [(.one (.int .i64))] (fun s w => R s w) = S45 x1 y2 w R := by kernel_rfl
  exact (fn_calls okF okM Tryd.func45 (by kernel_rfl) (by kernel_rfl) (e.mpr h)).mono fun _ _ ⟨s, he, hR⟩ => ⟨s, he, hR⟩

/-- foliant/order.rows$2 -/
def S43 (a1 : TyA60) (b2 : TyA60) (w : World) (R : Int → World → Prop) : Prop :=
  Nw w (.cells (Sig.cells LiA60 a1).toArray 61) fun vw3 =>
  Nw vw3 (.cells (Sig.cells LiA60 b2).toArray 61) fun vw4 =>
  ∃ vS5 : World → Prop, vS5 vw4.drew ∧ LdS vS5 ((⟨w.heap.size, 0, none⟩ : Addr).add 2) (Value.int .i64) fun (x6 : Int) =>
  LdS vS5 ((⟨vw3.heap.size, 0, none⟩ : Addr).add 2) (Value.int .i64) fun (x7 : Int) =>
  LdS vS5 ((⟨w.heap.size, 0, none⟩ : Addr).add 9) (Value.int .i64) fun (x8 : Int) =>
  LdS vS5 ((⟨vw3.heap.size, 0, none⟩ : Addr).add 9) (Value.int .i64) fun (x9 : Int) =>
  C41 x6 x7 vw4.drew fun r10 vw11 =>
    vS5 vw11 ∧ C45 x8 x9 vw11 fun r12 vw13 =>
      Nw vw13 (.cells #[.int .i64 r10, .int .i64 r12] 3) fun vw14 =>
      C44 (⟨some ⟨vw13.heap.size, 0, none⟩, 2, 2⟩ : Slc) vw14 fun r15 vw16 =>
        R r15 vw16
def pl43 : Plan := (.seq (.reg .seq) (.seq (.reg (.held [13] (.take 0 (.take 1 (.take 2 (.take 3 (.take 4 (.take 5 (.take 6 (.take 7 (.take 9 (.take 10 (.take 11 (.take 12 (.eff 8 none (.eff 13 (some [14]) (.eff 14 (some [15]) (.eff 15 (some []) (.take 16 .done))))))))))))))))))) .leaf))
set_option maxRecDepth 100000 in
theorem T43 (a1 : TyA60) (b2 : TyA60) (w : World) (R : Int → World → Prop) (h : S43 a1 b2 w R) : C43 a1 b2 w R := by
  have e : fnT Tryd.prog ⟨FF, MAY, (fun _ _ => False)⟩ pl43 Tryd.f43 [.agg (Sig.cells LiA60 a1).toArray, .agg (Sig.cells LiA60 b2).toArray] w [(.one (.int .i64))] (fun s w => R s w) = S43 a1 b2 w R := by kernel_rfl
  exact (fn_calls okF okM Tryd.func43 (by kernel_rfl) (by kernel_rfl) (e.mpr h)).mono fun _ _ ⟨s, he, hR⟩ => ⟨s, he, hR⟩

end Go.Proofs.YtodhdkbhmkinjaaDoor
