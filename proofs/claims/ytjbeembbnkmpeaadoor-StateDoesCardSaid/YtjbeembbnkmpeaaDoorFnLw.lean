/- The formulas of 5 functions of the program, written by program (gen.py); the kernel checks each. No condition. -/
import Derived.Test.YtjbeembbnkmpeaaDoorFn
import Derived.Test.YtjbeembbnkmpeaaDoorFnFix
import Derived.Test.YtjbeembbnkmpeaaDoorFnMat
import Derived.Test.YtjbeembbnkmpeaaDoorFnObj
import Derived.Test.YtjbeembbnkmpeaaDoorFnOps
import Derived.Test.YtjbeembbnkmpeaaDoorFnState
namespace Go.Proofs.YtjbeembbnkmpeaaDoor
open Sh
set_option linter.unusedVariables false
set_option maxRecDepth 100000

def C56 (name1 : ByteArray) (w : World) (R : (ByteArray × Slc × ByteArray) → World → Prop) : Prop :=
  Calls Tryd.prog 56 #[.string name1] w fun e w' => ∃ r0 : ByteArray × Slc × ByteArray, e = .returned (.agg #[.string r0.1, Slc.v r0.2.1, .string r0.2.2]) ∧ R r0 w'
theorem C56.mono {name1 : ByteArray} {w : World} {R R' : (ByteArray × Slc × ByteArray) → World → Prop} (h : C56 name1 w R) (hr : ∀ r0 w', R r0 w' → R' r0 w') : C56 name1 w R' :=
  Calls.mono h fun _ _ ⟨r0, he, hR⟩ => ⟨r0, he, hr _ _ hR⟩
def C108 (w : World) (R : (Int × Int × Int × Int × Int × Int) → World → Prop) : Prop :=
  Calls Tryd.prog 108 #[] w fun e w' => ∃ r0 : Int × Int × Int × Int × Int × Int, e = .returned (.agg #[.int .i64 (r0.1), .int .i64 (r0.2.1), .int .i64 (r0.2.2.1), .int .i64 (r0.2.2.2.1), .int .i64 (r0.2.2.2.2.1), .int .i64 (r0.2.2.2.2.2)]) ∧ R r0 w'
theorem C108.mono {w : World} {R R' : (Int × Int × Int × Int × Int × Int) → World → Prop} (h : C108 w R) (hr : ∀ r0 w', R r0 w' → R' r0 w') : C108 w R' :=
  Calls.mono h fun _ _ ⟨r0, he, hR⟩ => ⟨r0, he, hr _ _ hR⟩
def C109 (name1 : ByteArray) (n2 : Int) (w : World) (R : (ByteArray × Slc × ByteArray) → World → Prop) : Prop :=
  Calls Tryd.prog 109 #[.string name1, .int .i64 n2] w fun e w' => ∃ r0 : ByteArray × Slc × ByteArray, e = .returned (.agg #[.string r0.1, Slc.v r0.2.1, .string r0.2.2]) ∧ R r0 w'
theorem C109.mono {name1 : ByteArray} {n2 : Int} {w : World} {R R' : (ByteArray × Slc × ByteArray) → World → Prop} (h : C109 name1 n2 w R) (hr : ∀ r0 w', R r0 w' → R' r0 w') : C109 name1 n2 w R' :=
  Calls.mono h fun _ _ ⟨r0, he, hR⟩ => ⟨r0, he, hr _ _ hR⟩
def C47 (w : World) (R : Bool → World → Prop) : Prop :=
  Calls Tryd.prog 47 #[] w fun e w' => ∃ r0 : Bool, e = .returned (.bool r0) ∧ R r0 w'
theorem C47.mono {w : World} {R R' : Bool → World → Prop} (h : C47 w R) (hr : ∀ r0 w', R r0 w' → R' r0 w') : C47 w R' :=
  Calls.mono h fun _ _ ⟨r0, he, hR⟩ => ⟨r0, he, hr _ _ hR⟩
def C12 (a1 : TyA29) (b2 : TyA29) (w : World) (R : Bool → World → Prop) : Prop :=
  Calls Tryd.prog 12 #[.agg (Sig.cells LiA29 a1).toArray, .agg (Sig.cells LiA29 b2).toArray] w fun e w' => ∃ r0 : Bool, e = .returned (.bool r0) ∧ R r0 w'
theorem C12.mono {a1 : TyA29} {b2 : TyA29} {w : World} {R R' : Bool → World → Prop} (h : C12 a1 b2 w R) (hr : ∀ r0 w', R r0 w' → R' r0 w') : C12 a1 b2 w R' :=
  Calls.mono h fun _ _ ⟨r0, he, hR⟩ => ⟨r0, he, hr _ _ hR⟩

/-- foliant/foliantlaw44.none -/
def S56 (name1 : ByteArray) (w : World) (R : (ByteArray × Slc × ByteArray) → World → Prop) : Prop :=
  Nw w (.cells #[.string ((⟨#[]⟩ : ByteArray)), Slc.v ((⟨none, 0, 0⟩ : Slc)), .string ((⟨#[]⟩ : ByteArray))] 63) fun vw2 =>
  St vw2 (⟨w.heap.size, 0, none⟩ : Addr) (.string name1) fun vw3 =>
  St vw3 ((⟨w.heap.size, 0, none⟩ : Addr).add 1) (Slc.v ((⟨none, 0, 0⟩ : Slc))) fun vw4 =>
  St vw4 ((⟨w.heap.size, 0, none⟩ : Addr).add 2) (.string ((⟨#[]⟩ : ByteArray))) fun vw5 =>
  Ld vw5 (⟨w.heap.size, 0, none⟩ : Addr) Value.string fun (x6 : ByteArray) =>
  Ld vw5 ((⟨w.heap.size, 0, none⟩ : Addr).add 1) Slc.v fun (x7 : Slc) =>
  Ld vw5 ((⟨w.heap.size, 0, none⟩ : Addr).add 2) Value.string fun (x8 : ByteArray) =>
  R (x6, x7, x8) vw5
def pl56 : Plan := (.seq (.reg .seq) (.seq (.reg .seq) .leaf))
set_option maxRecDepth 100000 in
theorem T56 (name1 : ByteArray) (w : World) (R : (ByteArray × Slc × ByteArray) → World → Prop) (h : S56 name1 w R) : C56 name1 w R := by
  have e : fnT Tryd.prog ⟨FF, MAY, (fun _ _ => False)⟩ pl56 Tryd.f56 [.string name1] w [(.agg [.str, .slc, .str])] (fun s w => R s w) = S56 name1 w R := by kernel_rfl
  exact (fn_calls okF okM Tryd.func56 (by kernel_rfl) (by kernel_rfl) (e.mpr h)).mono fun _ _ ⟨s, he, hR⟩ => ⟨s, he, hR⟩

/-- foliant/foliantlaw44.plain -/
def S108 (w : World) (R : (Int × Int × Int × Int × Int × Int) → World → Prop) : Prop :=
  Nw w (.cells #[.int .i64 0, .int .i64 0, .int .i64 0, .int .i64 0, .int .i64 0, .int .i64 0] 23) fun vw1 =>
  St vw1 (⟨w.heap.size, 0, none⟩ : Addr) (.int .i64 10000) fun vw2 =>
  St vw2 ((⟨w.heap.size, 0, none⟩ : Addr).add 1) (.int .i64 0) fun vw3 =>
  St vw3 ((⟨w.heap.size, 0, none⟩ : Addr).add 2) (.int .i64 0) fun vw4 =>
  St vw4 ((⟨w.heap.size, 0, none⟩ : Addr).add 3) (.int .i64 10000) fun vw5 =>
  St vw5 ((⟨w.heap.size, 0, none⟩ : Addr).add 4) (.int .i64 0) fun vw6 =>
  St vw6 ((⟨w.heap.size, 0, none⟩ : Addr).add 5) (.int .i64 0) fun vw7 =>
  Ld vw7 (⟨w.heap.size, 0, none⟩ : Addr) (Value.int .i64) fun (x8 : Int) =>
  Ld vw7 ((⟨w.heap.size, 0, none⟩ : Addr).add 1) (Value.int .i64) fun (x9 : Int) =>
  Ld vw7 ((⟨w.heap.size, 0, none⟩ : Addr).add 2) (Value.int .i64) fun (x10 : Int) =>
  Ld vw7 ((⟨w.heap.size, 0, none⟩ : Addr).add 3) (Value.int .i64) fun (x11 : Int) =>
  Ld vw7 ((⟨w.heap.size, 0, none⟩ : Addr).add 4) (Value.int .i64) fun (x12 : Int) =>
  Ld vw7 ((⟨w.heap.size, 0, none⟩ : Addr).add 5) (Value.int .i64) fun (x13 : Int) =>
  R (x8, x9, x10, x11, x12, x13) vw7
def pl108 : Plan := (.seq (.reg .seq) (.seq (.reg .seq) .leaf))
set_option maxRecDepth 100000 in
theorem T108 (w : World) (R : (Int × Int × Int × Int × Int × Int) → World → Prop) (h : S108 w R) : C108 w R := by
  have e : fnT Tryd.prog ⟨FF, MAY, (fun _ _ => False)⟩ pl108 Tryd.f108 [] w [(.agg [(.int .i64), (.int .i64), (.int .i64), (.int .i64), (.int .i64), (.int .i64)])] (fun s w => R s w) = S108 w R := by kernel_rfl
  exact (fn_calls okF okM Tryd.func108 (by kernel_rfl) (by kernel_rfl) (e.mpr h)).mono fun _ _ ⟨s, he, hR⟩ => ⟨s, he, hR⟩

/-- foliant/foliantlaw44.op -/
def S109 (name1 : ByteArray) (n2 : Int) (w : World) (R : (ByteArray × Slc × ByteArray) → World → Prop) : Prop :=
  Nw w (.cells #[.string ((⟨#[]⟩ : ByteArray)), Slc.v ((⟨none, 0, 0⟩ : Slc)), .string ((⟨#[]⟩ : ByteArray))] 63) fun vw3 =>
  C162 n2 vw3 fun r4 vw5 =>
    Nw vw5 (.cells #[.int .i64 (r4.1), .int .i64 (r4.2.1), .int .i64 (r4.2.2.1), .string r4.2.2.2.1, Slc.v r4.2.2.2.2.1, Slc.v r4.2.2.2.2.2] 81) fun vw6 =>
    St vw6 (⟨w.heap.size, 0, none⟩ : Addr) (.string name1) fun vw7 =>
    St vw7 ((⟨w.heap.size, 0, none⟩ : Addr).add 1) (Slc.v ((⟨some ⟨vw5.heap.size, 0, none⟩, 1, 1⟩ : Slc))) fun vw8 =>
    St vw8 ((⟨w.heap.size, 0, none⟩ : Addr).add 2) (.string ((⟨#[]⟩ : ByteArray))) fun vw9 =>
    Ld vw9 (⟨w.heap.size, 0, none⟩ : Addr) Value.string fun (x10 : ByteArray) =>
    Ld vw9 ((⟨w.heap.size, 0, none⟩ : Addr).add 1) Slc.v fun (x11 : Slc) =>
    Ld vw9 ((⟨w.heap.size, 0, none⟩ : Addr).add 2) Value.string fun (x12 : ByteArray) =>
    R (x10, x11, x12) vw9
def pl109 : Plan := (.seq (.reg .seq) (.seq (.reg .seq) .leaf))
set_option maxRecDepth 100000 in
theorem T109 (name1 : ByteArray) (n2 : Int) (w : World) (R : (ByteArray × Slc × ByteArray) → World → Prop) (h : S109 name1 n2 w R) : C109 name1 n2 w R := by
  have e : fnT Tryd.prog ⟨FF, MAY, (fun _ _ => False)⟩ pl109 Tryd.f109 [.string name1, .int .i64 n2] w [(.agg [.str, .slc, .str])] (fun s w => R s w) = S109 name1 n2 w R := by kernel_rfl
  exact (fn_calls okF okM Tryd.func109 (by kernel_rfl) (by kernel_rfl) (e.mpr h)).mono fun _ _ ⟨s, he, hR⟩ => ⟨s, he, hR⟩

/-- foliant/foliantlaw44.lives -/
def S47 (w : World) (R : Bool → World → Prop) : Prop :=
  C108 w fun r1 vw2 =>
    C48 (r1.1, r1.2.1, r1.2.2.1, r1.2.2.2.1, r1.2.2.2.2.1, r1.2.2.2.2.2) vw2 fun r3 vw4 =>
      C56 (⟨#[113]⟩ : ByteArray) vw4 fun r5 vw6 =>
        C53 r3 (r5.1, r5.2.1, r5.2.2) vw6 fun r7 vw8 =>
          C109 (⟨#[119]⟩ : ByteArray) 2 vw8 fun r9 vw10 =>
            C53 r3 (r9.1, r9.2.1, r9.2.2) vw10 fun r11 vw12 =>
              C52 r3 vw12 fun r13 vw14 =>
                C55 r3 vw14 fun r15 vw16 =>
                  C56 (⟨#[81]⟩ : ByteArray) vw16 fun r17 vw18 =>
                    C53 r3 (r17.1, r17.2.1, r17.2.2) vw18 fun r19 vw20 =>
                      C56 (⟨#[81]⟩ : ByteArray) vw20 fun r21 vw22 =>
                        C53 r3 (r21.1, r21.2.1, r21.2.2) vw22 fun r23 vw24 =>
                          C109 (⟨#[74]⟩ : ByteArray) 3 vw24 fun r25 vw26 =>
                            C53 r3 (r25.1, r25.2.1, r25.2.2) vw26 fun r27 vw28 =>
                              C109 (⟨#[108]⟩ : ByteArray) 1 vw28 fun r29 vw30 =>
                                C53 r3 (r29.1, r29.2.1, r29.2.2) vw30 fun r31 vw32 =>
                                  C109 (⟨#[114, 103]⟩ : ByteArray) 1 vw32 fun r33 vw34 =>
                                    C53 r3 (r33.1, r33.2.1, r33.2.2) vw34 fun r35 vw36 =>
                                      Br (r7 == 0) (Br (r11 == 0) (Br (r13.2.2.2.2.2.2.1 == 20000) (Br (r15 == 1) (Br (r19 == 0) (C52 r3 vw36 fun r37 vw38 =>
                                                  Br (r37.2.2.2.2.2.2.1 == 10000) (C55 r3 vw38 fun r39 vw40 =>
                                                      Br (r39 == 0) (Br (r23 == 29) (Br (r27 == 2) (Br (r31 == 8) (Br (r35 == 28) (C56 (⟨#[113]⟩ : ByteArray) vw40 fun r41 vw42 =>
                                                                  C53 none (r41.1, r41.2.1, r41.2.2) vw42 fun r43 vw44 =>
                                                                    Br (r43 == 1) (C55 none vw44 fun r45 vw46 =>
                                                                        Br (r45 == 0) (C52 none vw46 fun r47 vw48 =>
                                                                            C57 r47 ((0, 0, 0, 0, 0, 0, 0, 0, 0, 0, (⟨none, 0, 0⟩ : Slc), 0, 0, 0, 0, 0, 0, 0, 0, 0, 0, 0, 0, 0, 0, 0, 0, 0, (⟨#[]⟩ : ByteArray), 0) : TyA29) vw48 fun r49 vw50 =>
                                                                              Br r49 (C48 (1099511627776, 0, 0, 0, 0, 0) vw50 fun r51 vw52 =>
                                                                                  Br r51.isNone (C108 vw52 fun r53 vw54 =>
                                                                                      C13 (r53.1, r53.2.1, r53.2.2.1, r53.2.2.2.1, r53.2.2.2.2.1, r53.2.2.2.2.2) vw54 fun r55 vw56 =>
                                                                                        Br (r55.2.2.2.2.2.2.2.2.2.2.2.2.2.2.2.2.2.2.2.2.2.2.2.2.1 == 1000000) (C108 vw56 fun r57 vw58 =>
                                                                                            C13 (r57.1, r57.2.1, r57.2.2.1, r57.2.2.2.1, r57.2.2.2.2.1, r57.2.2.2.2.2) vw58 fun r59 vw60 =>
                                                                                              C108 vw60 fun r61 vw62 =>
                                                                                                C51 (r61.1, r61.2.1, r61.2.2.1, r61.2.2.2.1, r61.2.2.2.2.1, r61.2.2.2.2.2) vw62 fun r63 vw64 =>
                                                                                                  C57 r59 r63 vw64 fun r65 vw66 =>
                                                                                                    R r65 vw66) (R false vw56)) (R false vw52)) (R false vw50)) (R false vw46)) (R false vw44)) (R false vw40)) (R false vw40)) (R false vw40)) (R false vw40)) (R false vw40)) (R false vw38)) (R false vw36)) (R false vw36)) (R false vw36)) (R false vw36)) (R false vw36)
def pl47 : Plan := (.seq (.reg .seq) (.seq (.reg .seq) (.seq (.reg .seq) (.seq (.reg .seq) (.seq (.reg .seq) (.seq (.reg .seq) (.seq (.reg .seq) (.seq (.reg .seq) (.seq (.reg .seq) .leaf)))))))))
set_option maxRecDepth 100000 in
theorem T47 (w : World) (R : Bool → World → Prop) (h : S47 w R) : C47 w R := by
  have e : fnT Tryd.prog ⟨FF, MAY, (fun _ _ => False)⟩ pl47 Tryd.f47 [] w [(.one .bool)] (fun s w => R s w) = S47 w R := by kernel_rfl
  exact (fn_calls okF okM Tryd.func47 (by kernel_rfl) (by kernel_rfl) (e.mpr h)).mono fun _ _ ⟨s, he, hR⟩ => ⟨s, he, hR⟩

/-- foliant/foliantlaw44.StateSame -/
def S12 (a1 : TyA29) (b2 : TyA29) (w : World) (R : Bool → World → Prop) : Prop :=
  Nw w (.cells (Sig.cells LiA29 a1).toArray 30) fun vw3 =>
  Nw vw3 (.cells (Sig.cells LiA29 b2).toArray 30) fun vw4 =>
  Ld vw4 ((⟨w.heap.size, 0, none⟩ : Addr).add 10) Slc.v fun (x11 : Slc) =>
  Br (decide (((x11.len : Nat) : Int) > 100)) (C47 vw4 fun r12 vw13 =>
      R r12 vw13) (Ld vw4 ((⟨vw3.heap.size, 0, none⟩ : Addr).add 10) Slc.v fun (x14 : Slc) =>
    Br (decide (((x14.len : Nat) : Int) > 100)) (C47 vw4 fun r15 vw16 =>
        R r15 vw16) (∃ vS17 : World → Prop, vS17 vw4.drew ∧ LdST vS17 (⟨w.heap.size, 0, none⟩ : Addr) 0 LiA29 fun (x18 : TyA29) =>
      LdST vS17 (⟨vw3.heap.size, 0, none⟩ : Addr) 0 LiA29 fun (x19 : TyA29) =>
      LdST vS17 (⟨w.heap.size, 0, none⟩ : Addr) 0 LiA29 fun (x20 : TyA29) =>
      LdST vS17 (⟨vw3.heap.size, 0, none⟩ : Addr) 0 LiA29 fun (x21 : TyA29) =>
      C57 x18 x19 vw4.drew fun r22 vw23 =>
        vS17 vw23 ∧ C50 x20 x21 vw23 fun r24 vw25 =>
          ∃ vS26 : World → Prop, vS26 vw25 ∧ Br (r22 == r24) (LdST vS26 (⟨w.heap.size, 0, none⟩ : Addr) 0 LiA29 fun (x27 : TyA29) =>
            LdST vS26 (⟨w.heap.size, 0, none⟩ : Addr) 0 LiA29 fun (x28 : TyA29) =>
            C57 x27 x28 vw25 fun r29 vw30 =>
              Br r29 (C47 vw30 fun r31 vw32 =>
                  R r31 vw32) (R false vw30)) (R false vw25)))
def pl12 : Plan := (.seq (.reg .seq) (.seq (.seq (.reg .seq) (.cond (.seq (.reg .seq) .leaf) .leaf)) (.seq (.reg (.held [5] (.take 0 (.take 1 (.take 3 (.take 4 (.eff 2 none (.eff 5 (some [10]) (.take 6 (.take 7 (.take 8 (.take 9 (.eff 10 (some [13]) (.take 11 (.take 12 (.eff 13 (some []) (.take 14 (.take 15 .done)))))))))))))))))) .leaf)))
set_option maxRecDepth 100000 in
theorem T12 (a1 : TyA29) (b2 : TyA29) (w : World) (R : Bool → World → Prop) (h : S12 a1 b2 w R) : C12 a1 b2 w R := by
  have e : fnT Tryd.prog ⟨FF, MAY, (fun _ _ => False)⟩ pl12 Tryd.f12 [.agg (Sig.cells LiA29 a1).toArray, .agg (Sig.cells LiA29 b2).toArray] w [(.one .bool)] (fun s w => R s w) = S12 a1 b2 w R := by kernel_rfl
  exact (fn_calls okF okM Tryd.func12 (by kernel_rfl) (by kernel_rfl) (e.mpr h)).mono fun _ _ ⟨s, he, hR⟩ => ⟨s, he, hR⟩

end Go.Proofs.YtjbeembbnkmpeaaDoor
