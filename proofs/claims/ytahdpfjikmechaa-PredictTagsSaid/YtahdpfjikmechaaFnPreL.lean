/- The formulas of 4 functions of the program, written by program (gen.py); the kernel checks each. No condition. -/
import Derived.Test.YtahdpfjikmechaaFnPreP
import Derived.Test.YtahdpfjikmechaaFnPreR
namespace Go.Proofs.Ytahdpfjikmechaa
open Sh
set_option linter.unusedVariables false

/-- foliant/foliantlaw15.lives -/
def S45 (w : World) (R : Bool → World → Prop) : Prop :=
  Nw w (.cells #[.int .i64 0, .int .i64 0, .int .i64 0] 50) fun vw1 =>
  Nw vw1 (.cells #[.int .i64 0, .int .i64 0, .int .i64 0] 50) fun vw2 =>
  St vw2 (⟨w.heap.size, 0, none⟩ : Addr) (.int .i64 2) fun vw3 =>
  St vw3 ((⟨w.heap.size, 0, none⟩ : Addr).add 1) (.int .i64 1) fun vw4 =>
  St vw4 ((⟨w.heap.size, 0, none⟩ : Addr).add 2) (.int .i64 3) fun vw5 =>
  St vw5 (⟨vw1.heap.size, 0, none⟩ : Addr) (.int .i64 12) fun vw6 =>
  St vw6 ((⟨vw1.heap.size, 0, none⟩ : Addr).add 1) (.int .i64 1) fun vw7 =>
  St vw7 ((⟨vw1.heap.size, 0, none⟩ : Addr).add 2) (.int .i64 2) fun vw8 =>
  Ld vw8 (⟨w.heap.size, 0, none⟩ : Addr) (Value.int .i64) fun (x9 : Int) =>
  Ld vw8 ((⟨w.heap.size, 0, none⟩ : Addr).add 1) (Value.int .i64) fun (x10 : Int) =>
  Ld vw8 ((⟨w.heap.size, 0, none⟩ : Addr).add 2) (Value.int .i64) fun (x11 : Int) =>
  C46 (x9, x10, x11) (⟨#[5, 7, 4]⟩ : ByteArray) vw8 fun r12 r13 vw14 =>
    Ld vw14 (⟨vw1.heap.size, 0, none⟩ : Addr) (Value.int .i64) fun (x15 : Int) =>
    Ld vw14 ((⟨vw1.heap.size, 0, none⟩ : Addr).add 1) (Value.int .i64) fun (x16 : Int) =>
    Ld vw14 ((⟨vw1.heap.size, 0, none⟩ : Addr).add 2) (Value.int .i64) fun (x17 : Int) =>
    C46 (x15, x16, x17) (⟨#[1, 2, 3, 5]⟩ : ByteArray) vw14 fun r18 r19 vw20 =>
      Ld vw20 (⟨w.heap.size, 0, none⟩ : Addr) (Value.int .i64) fun (x21 : Int) =>
      Ld vw20 ((⟨w.heap.size, 0, none⟩ : Addr).add 1) (Value.int .i64) fun (x22 : Int) =>
      Ld vw20 ((⟨w.heap.size, 0, none⟩ : Addr).add 2) (Value.int .i64) fun (x23 : Int) =>
      C48 (x21, x22, x23) (⟨#[5, 2, 253]⟩ : ByteArray) vw20 fun r24 r25 vw26 =>
        Ld vw26 (⟨vw1.heap.size, 0, none⟩ : Addr) (Value.int .i64) fun (x27 : Int) =>
        Ld vw26 ((⟨vw1.heap.size, 0, none⟩ : Addr).add 1) (Value.int .i64) fun (x28 : Int) =>
        Ld vw26 ((⟨vw1.heap.size, 0, none⟩ : Addr).add 2) (Value.int .i64) fun (x29 : Int) =>
        C48 (x27, x28, x29) (⟨#[5, 0, 0]⟩ : ByteArray) vw26 fun r30 r31 vw32 =>
          Ld vw32 (⟨vw1.heap.size, 0, none⟩ : Addr) (Value.int .i64) fun (x33 : Int) =>
          Ld vw32 ((⟨vw1.heap.size, 0, none⟩ : Addr).add 1) (Value.int .i64) fun (x34 : Int) =>
          Ld vw32 ((⟨vw1.heap.size, 0, none⟩ : Addr).add 2) (Value.int .i64) fun (x35 : Int) =>
          C46 (x33, x34, x35) (⟨#[97]⟩ : ByteArray) vw32 fun r36 r37 vw38 =>
            Br (r12.toList == (⟨#[5, 2, 253]⟩ : ByteArray).toList) (Br (r13 == 0) (Br (r18.toList == (⟨#[2, 1, 2, 2, 2, 3]⟩ : ByteArray).toList) (Br (r19 == 0) (Br (r24.toList == (⟨#[5, 7, 4]⟩ : ByteArray).toList) (Br (r25 == 0) (Br (r31 == 3) (Br (r37 == 16) (C56 10 20 15 vw38 fun r39 vw40 =>
                              Br (r39 == 15) (C56 10 10 0 vw40 fun r41 vw42 =>
                                  Br (r41 == 10) (C54 (⟨#[]⟩ : ByteArray) (⟨#[7, 7, 7]⟩ : ByteArray) 1 vw42 fun r43 vw44 =>
                                      Br (r43 == 1) (Ld vw44 (⟨w.heap.size, 0, none⟩ : Addr) (Value.int .i64) fun (x45 : Int) =>
                                        Ld vw44 ((⟨w.heap.size, 0, none⟩ : Addr).add 1) (Value.int .i64) fun (x46 : Int) =>
                                        Ld vw44 ((⟨w.heap.size, 0, none⟩ : Addr).add 2) (Value.int .i64) fun (x47 : Int) =>
                                        C52 (x45, x46, x47) vw44 fun r48 vw49 =>
                                          Br (r48 == 3) (C50 (0, 0, 0) vw49 fun r50 vw51 =>
                                              R (r50 == 1) vw51) (R false vw49)) (R false vw44)) (R false vw42)) (R false vw40)) (R false vw38)) (R false vw38)) (R false vw38)) (R false vw38)) (R false vw38)) (R false vw38)) (R false vw38)) (R false vw38)
def C45 (w : World) (R : Bool → World → Prop) : Prop :=
  Calls Try.prog 45 #[] w fun e w' => ∃ r0 : Bool, e = .returned (.bool r0) ∧ R r0 w'
def pl45 : Plan := (.seq (.reg .seq) (.seq (.reg .seq) (.seq (.reg .seq) (.seq (.reg .seq) (.seq (.reg .seq) (.seq (.reg .seq) (.seq (.reg .seq) (.seq (.reg .seq) .leaf))))))))
theorem C45.mono {w : World} {R R' : Bool → World → Prop} (h : C45 w R) (hr : ∀ r0 w', R r0 w' → R' r0 w') : C45 w R' :=
  Calls.mono h fun _ _ ⟨r0, he, hR⟩ => ⟨r0, he, hr _ _ hR⟩
set_option maxRecDepth 100000 in
theorem T45 (w : World) (R : Bool → World → Prop) (h : S45 w R) : C45 w R := by
  have e : fnT Try.prog FF pl45 Try.f45 [] w [(.one .bool)] (fun s w => R s w) = S45 w R := by kernel_rfl
  exact (fn_calls okF okM Try.func45 (by kernel_rfl) (by kernel_rfl) (e.mpr h)).mono fun _ _ ⟨s, he, hR⟩ => ⟨s, he, hR⟩

/-- foliant/foliantlaw15.PredictTells -/
def S8 (p1 : Int × Int × Int) (s2 : ByteArray) (w : World) (R : Bool → World → Prop) : Prop :=
  Nw w (.cells #[.int .i64 (p1.1), .int .i64 (p1.2.1), .int .i64 (p1.2.2)] 50) fun vw3 =>
  Br (decide ((((s2).size : Nat) : Int) > 1000)) (C45 vw3 fun r6 vw7 =>
      R r6 vw7) (Ld vw3 (⟨w.heap.size, 0, none⟩ : Addr) (Value.int .i64) fun (x8 : Int) =>
    Ld vw3 ((⟨w.heap.size, 0, none⟩ : Addr).add 1) (Value.int .i64) fun (x9 : Int) =>
    Ld vw3 ((⟨w.heap.size, 0, none⟩ : Addr).add 2) (Value.int .i64) fun (x10 : Int) =>
    C46 (x8, x9, x10) s2 vw3 fun r11 r12 vw13 =>
      Ld vw13 (⟨w.heap.size, 0, none⟩ : Addr) (Value.int .i64) fun (x14 : Int) =>
      Ld vw13 ((⟨w.heap.size, 0, none⟩ : Addr).add 1) (Value.int .i64) fun (x15 : Int) =>
      Ld vw13 ((⟨w.heap.size, 0, none⟩ : Addr).add 2) (Value.int .i64) fun (x16 : Int) =>
      C47 (x14, x15, x16) s2 vw13 fun r17 r18 vw19 =>
        Ld vw19 (⟨w.heap.size, 0, none⟩ : Addr) (Value.int .i64) fun (x20 : Int) =>
        Ld vw19 ((⟨w.heap.size, 0, none⟩ : Addr).add 1) (Value.int .i64) fun (x21 : Int) =>
        Ld vw19 ((⟨w.heap.size, 0, none⟩ : Addr).add 2) (Value.int .i64) fun (x22 : Int) =>
        C48 (x20, x21, x22) s2 vw19 fun r23 r24 vw25 =>
          Ld vw25 (⟨w.heap.size, 0, none⟩ : Addr) (Value.int .i64) fun (x26 : Int) =>
          Ld vw25 ((⟨w.heap.size, 0, none⟩ : Addr).add 1) (Value.int .i64) fun (x27 : Int) =>
          Ld vw25 ((⟨w.heap.size, 0, none⟩ : Addr).add 2) (Value.int .i64) fun (x28 : Int) =>
          C49 (x26, x27, x28) s2 vw25 fun r29 r30 vw31 =>
            ∃ vS32 : World → Prop, vS32 vw31.drew ∧ Br (r11.toList == r17.toList) (Br (r12 == r18) (Br (r23.toList == r29.toList) (Br (r24 == r30) (LdS vS32 (⟨w.heap.size, 0, none⟩ : Addr) (Value.int .i64) fun (x33 : Int) =>
                    LdS vS32 ((⟨w.heap.size, 0, none⟩ : Addr).add 1) (Value.int .i64) fun (x34 : Int) =>
                    LdS vS32 ((⟨w.heap.size, 0, none⟩ : Addr).add 2) (Value.int .i64) fun (x35 : Int) =>
                    LdS vS32 (⟨w.heap.size, 0, none⟩ : Addr) (Value.int .i64) fun (x36 : Int) =>
                    LdS vS32 ((⟨w.heap.size, 0, none⟩ : Addr).add 1) (Value.int .i64) fun (x37 : Int) =>
                    LdS vS32 ((⟨w.heap.size, 0, none⟩ : Addr).add 2) (Value.int .i64) fun (x38 : Int) =>
                    C50 (x33, x34, x35) vw31.drew fun r39 vw40 =>
                      vS32 vw40 ∧ C51 (x36, x37, x38) vw40 fun r41 vw42 =>
                        ∃ vS43 : World → Prop, vS43 vw42 ∧ Br (r39 == r41) (LdS vS43 (⟨w.heap.size, 0, none⟩ : Addr) (Value.int .i64) fun (x44 : Int) =>
                          LdS vS43 ((⟨w.heap.size, 0, none⟩ : Addr).add 1) (Value.int .i64) fun (x45 : Int) =>
                          LdS vS43 ((⟨w.heap.size, 0, none⟩ : Addr).add 2) (Value.int .i64) fun (x46 : Int) =>
                          LdS vS43 (⟨w.heap.size, 0, none⟩ : Addr) (Value.int .i64) fun (x47 : Int) =>
                          LdS vS43 ((⟨w.heap.size, 0, none⟩ : Addr).add 1) (Value.int .i64) fun (x48 : Int) =>
                          LdS vS43 ((⟨w.heap.size, 0, none⟩ : Addr).add 2) (Value.int .i64) fun (x49 : Int) =>
                          C52 (x44, x45, x46) vw42 fun r50 vw51 =>
                            vS43 vw51 ∧ C53 (x47, x48, x49) vw51 fun r52 vw53 =>
                              Br (r50 == r52) (C45 vw53 fun r54 vw55 =>
                                  R r54 vw55) (R false vw53)) (R false vw42)) (∃ vS56 : World → Prop, vS56 vw31.drew ∧ R false vw31.drew)) (∃ vS57 : World → Prop, vS57 vw31.drew ∧ R false vw31.drew)) (∃ vS58 : World → Prop, vS58 vw31.drew ∧ R false vw31.drew)) (∃ vS59 : World → Prop, vS59 vw31.drew ∧ R false vw31.drew))
def C8 (p1 : Int × Int × Int) (s2 : ByteArray) (w : World) (R : Bool → World → Prop) : Prop :=
  Calls Try.prog 8 #[.agg #[.int .i64 (p1.1), .int .i64 (p1.2.1), .int .i64 (p1.2.2)], .string s2] w fun e w' => ∃ r0 : Bool, e = .returned (.bool r0) ∧ R r0 w'
def pl8 : Plan := (.seq (.reg .seq) (.seq (.seq (.reg .seq) (.cond (.seq (.reg .seq) .leaf) .leaf)) (.seq (.reg .seq) (.seq (.reg .seq) (.seq (.reg .seq) (.seq (.reg .seq) (.seq (.reg (.held [22] (.take 0 (.take 1 (.take 2 (.take 3 (.take 4 (.take 5 (.take 6 (.take 7 (.take 8 (.take 9 (.take 10 (.take 11 (.take 12 (.take 13 (.take 14 (.take 15 (.take 16 (.take 17 (.take 18 (.take 19 (.take 21 (.eff 20 none (.eff 22 (some [29]) (.take 23 (.take 24 (.take 25 (.take 26 (.take 28 (.eff 27 none (.eff 29 (some [33]) (.take 30 (.take 31 (.take 32 (.eff 33 (some []) (.take 34 (.take 35 .done)))))))))))))))))))))))))))))))))))))) .leaf)))))))
theorem C8.mono {p1 : Int × Int × Int} {s2 : ByteArray} {w : World} {R R' : Bool → World → Prop} (h : C8 p1 s2 w R) (hr : ∀ r0 w', R r0 w' → R' r0 w') : C8 p1 s2 w R' :=
  Calls.mono h fun _ _ ⟨r0, he, hR⟩ => ⟨r0, he, hr _ _ hR⟩
set_option maxRecDepth 100000 in
theorem T8 (p1 : Int × Int × Int) (s2 : ByteArray) (w : World) (R : Bool → World → Prop) (h : S8 p1 s2 w R) : C8 p1 s2 w R := by
  have e : fnT Try.prog FF pl8 Try.f8 [.agg #[.int .i64 (p1.1), .int .i64 (p1.2.1), .int .i64 (p1.2.2)], .string s2] w [(.one .bool)] (fun s w => R s w) = S8 p1 s2 w R := by kernel_rfl
  exact (fn_calls okF okM Try.func8 (by kernel_rfl) (by kernel_rfl) (e.mpr h)).mono fun _ _ ⟨s, he, hR⟩ => ⟨s, he, hR⟩

/-- foliant/foliantlaw15.PredictBest -/
def S9 (prev1 : ByteArray) (row2 : ByteArray) (colors3 : Int) (l4 : Int × Int × Int) (w : World) (R : Bool → World → Prop) : Prop :=
  Nw w (.cells #[.int .u8 (l4.1), .int .u8 (l4.2.1), .int .u8 (l4.2.2)] 55) fun vw5 =>
  Br (decide ((((prev1).size : Nat) : Int) > 300)) (C45 vw5 fun r10 vw11 =>
      R r10 vw11) (Br (decide ((((row2).size : Nat) : Int) > 300)) (C45 vw5 fun r12 vw13 =>
        R r12 vw13) (C54 prev1 row2 colors3 vw5.drew fun r14 vw15 =>
        C55 prev1 row2 colors3 vw15 fun r16 vw17 =>
          ∃ vS18 : World → Prop, vS18 vw17 ∧ Br (r14 == r16) (LdS vS18 (⟨w.heap.size, 0, none⟩ : Addr) (Value.int .u8) fun (x19 : Int) =>
            LdS vS18 ((⟨w.heap.size, 0, none⟩ : Addr).add 1) (Value.int .u8) fun (x20 : Int) =>
            LdS vS18 ((⟨w.heap.size, 0, none⟩ : Addr).add 2) (Value.int .u8) fun (x21 : Int) =>
            LdS vS18 (⟨w.heap.size, 0, none⟩ : Addr) (Value.int .u8) fun (x22 : Int) =>
            LdS vS18 ((⟨w.heap.size, 0, none⟩ : Addr).add 1) (Value.int .u8) fun (x23 : Int) =>
            LdS vS18 ((⟨w.heap.size, 0, none⟩ : Addr).add 2) (Value.int .u8) fun (x24 : Int) =>
            C56 x19 x20 x21 vw17 fun r25 vw26 =>
              vS18 vw26 ∧ C57 x22 x23 x24 vw26 fun r27 vw28 =>
                Br (r25 == r27) (C45 vw28 fun r29 vw30 =>
                    R r29 vw30) (R false vw28)) (R false vw17)))
def C9 (prev1 : ByteArray) (row2 : ByteArray) (colors3 : Int) (l4 : Int × Int × Int) (w : World) (R : Bool → World → Prop) : Prop :=
  Calls Try.prog 9 #[.string prev1, .string row2, .int .i64 colors3, .agg #[.int .u8 (l4.1), .int .u8 (l4.2.1), .int .u8 (l4.2.2)]] w fun e w' => ∃ r0 : Bool, e = .returned (.bool r0) ∧ R r0 w'
def pl9 : Plan := (.seq (.reg .seq) (.seq (.seq (.reg .seq) (.cond (.seq (.reg .seq) .leaf) .leaf)) (.seq (.reg (.held [3] (.take 0 (.take 1 (.take 2 (.take 4 (.take 5 (.take 6 (.eff 3 (some [7]) (.eff 7 (some [23]) (.take 8 (.take 9 (.take 10 (.take 11 (.take 12 (.take 13 (.take 14 (.take 15 (.take 17 (.take 18 (.take 19 (.take 20 (.take 21 (.take 22 (.eff 16 none (.eff 23 (some [27]) (.take 24 (.take 25 (.take 26 (.eff 27 (some []) (.take 28 (.take 29 .done)))))))))))))))))))))))))))))))) .leaf)))
theorem C9.mono {prev1 : ByteArray} {row2 : ByteArray} {colors3 : Int} {l4 : Int × Int × Int} {w : World} {R R' : Bool → World → Prop} (h : C9 prev1 row2 colors3 l4 w R) (hr : ∀ r0 w', R r0 w' → R' r0 w') : C9 prev1 row2 colors3 l4 w R' :=
  Calls.mono h fun _ _ ⟨r0, he, hR⟩ => ⟨r0, he, hr _ _ hR⟩
set_option maxRecDepth 100000 in
theorem T9 (prev1 : ByteArray) (row2 : ByteArray) (colors3 : Int) (l4 : Int × Int × Int) (w : World) (R : Bool → World → Prop) (h : S9 prev1 row2 colors3 l4 w R) : C9 prev1 row2 colors3 l4 w R := by
  have e : fnT Try.prog FF pl9 Try.f9 [.string prev1, .string row2, .int .i64 colors3, .agg #[.int .u8 (l4.1), .int .u8 (l4.2.1), .int .u8 (l4.2.2)]] w [(.one .bool)] (fun s w => R s w) = S9 prev1 row2 colors3 l4 w R := by kernel_rfl
  exact (fn_calls okF okM Try.func9 (by kernel_rfl) (by kernel_rfl) (e.mpr h)).mono fun _ _ ⟨s, he, hR⟩ => ⟨s, he, hR⟩

/-- foliant/foliantlaw15.PredictBack -/
def S10 (p1 : Int × Int × Int) (s2 : ByteArray) (w : World) (R : Bool → World → Prop) : Prop :=
  Nw w (.cells #[.int .i64 (p1.1), .int .i64 (p1.2.1), .int .i64 (p1.2.2)] 50) fun vw3 =>
  Ld vw3 (⟨w.heap.size, 0, none⟩ : Addr) (Value.int .i64) fun (x4 : Int) =>
  Ld vw3 ((⟨w.heap.size, 0, none⟩ : Addr).add 1) (Value.int .i64) fun (x5 : Int) =>
  Ld vw3 ((⟨w.heap.size, 0, none⟩ : Addr).add 2) (Value.int .i64) fun (x6 : Int) =>
  C52 (x4, x5, x6) vw3 fun r7 vw8 =>
    Br (decide ((((s2).size : Nat) : Int) > 1000)) (Ld vw8 (⟨w.heap.size, 0, none⟩ : Addr) (Value.int .i64) fun (x32 : Int) =>
      Ld vw8 ((⟨w.heap.size, 0, none⟩ : Addr).add 1) (Value.int .i64) fun (x33 : Int) =>
      Ld vw8 ((⟨w.heap.size, 0, none⟩ : Addr).add 2) (Value.int .i64) fun (x34 : Int) =>
      C51 (x32, x33, x34) vw8 fun r35 vw36 =>
        Br (r35 == 0) (C45 vw36 fun r37 vw38 =>
            R r37 vw38) (Br (r7 == 0) (C45 vw36 fun r39 vw40 =>
              R r39 vw40) (R false vw36))) (Ld vw8 (⟨w.heap.size, 0, none⟩ : Addr) (Value.int .i64) fun (x41 : Int) =>
      Ld vw8 ((⟨w.heap.size, 0, none⟩ : Addr).add 1) (Value.int .i64) fun (x42 : Int) =>
      Ld vw8 ((⟨w.heap.size, 0, none⟩ : Addr).add 2) (Value.int .i64) fun (x43 : Int) =>
      C51 (x41, x42, x43) vw8 fun r44 vw45 =>
        Br (r44 != 0) (Ld vw45 (⟨w.heap.size, 0, none⟩ : Addr) (Value.int .i64) fun (x46 : Int) =>
          Ld vw45 ((⟨w.heap.size, 0, none⟩ : Addr).add 1) (Value.int .i64) fun (x47 : Int) =>
          Ld vw45 ((⟨w.heap.size, 0, none⟩ : Addr).add 2) (Value.int .i64) fun (x48 : Int) =>
          C51 (x46, x47, x48) vw45 fun r49 vw50 =>
            Br (r49 == 0) (C45 vw50 fun r51 vw52 =>
                R r51 vw52) (Br (r7 == 0) (C45 vw50 fun r53 vw54 =>
                  R r53 vw54) (R false vw50))) (Br (decide (r7 < 1)) (R false vw45) (r7 ≠ 0 ∧ 0 ≤ (IntKind.i64.wrap ((((s2).size : Nat) : Int) - (Int.tmod (((s2).size : Nat) : Int) r7))) ∧ (IntKind.i64.wrap ((((s2).size : Nat) : Int) - (Int.tmod (((s2).size : Nat) : Int) r7))) ≤ (((s2).size : Nat) : Int) ∧ Lt (s2.extract 0 ((IntKind.i64.wrap ((((s2).size : Nat) : Int) - (Int.tmod (((s2).size : Nat) : Int) r7))).toNat)) fun (x55 : ByteArray) =>
            Ld vw45 (⟨w.heap.size, 0, none⟩ : Addr) (Value.int .i64) fun (x56 : Int) =>
            Ld vw45 ((⟨w.heap.size, 0, none⟩ : Addr).add 1) (Value.int .i64) fun (x57 : Int) =>
            Ld vw45 ((⟨w.heap.size, 0, none⟩ : Addr).add 2) (Value.int .i64) fun (x58 : Int) =>
            C46 (x56, x57, x58) x55 vw45 fun r59 r60 vw61 =>
              Ld vw61 (⟨w.heap.size, 0, none⟩ : Addr) (Value.int .i64) fun (x62 : Int) =>
              Ld vw61 ((⟨w.heap.size, 0, none⟩ : Addr).add 1) (Value.int .i64) fun (x63 : Int) =>
              Ld vw61 ((⟨w.heap.size, 0, none⟩ : Addr).add 2) (Value.int .i64) fun (x64 : Int) =>
              C48 (x62, x63, x64) r59 vw61 fun r65 r66 vw67 =>
                Br (r60 == 0) (Br (r66 == 0) (Br (r65.toList == x55.toList) (C45 vw67 fun r68 vw69 =>
                        R r68 vw69) (R false vw67)) (R false vw67)) (R false vw67))))
def C10 (p1 : Int × Int × Int) (s2 : ByteArray) (w : World) (R : Bool → World → Prop) : Prop :=
  Calls Try.prog 10 #[.agg #[.int .i64 (p1.1), .int .i64 (p1.2.1), .int .i64 (p1.2.2)], .string s2] w fun e w' => ∃ r0 : Bool, e = .returned (.bool r0) ∧ R r0 w'
def pl10 : Plan := (.seq (.reg .seq) (.seq (.reg .seq) (.seq (.seq (.reg .seq) (.cond (.seq (.reg .seq) .leaf) .leaf)) (.seq (.seq (.reg .seq) (.cond (.seq (.reg .seq) .leaf) .leaf)) (.seq (.reg .seq) (.seq (.reg .seq) (.seq (.reg .seq) (.seq (.reg .seq) .leaf))))))))
theorem C10.mono {p1 : Int × Int × Int} {s2 : ByteArray} {w : World} {R R' : Bool → World → Prop} (h : C10 p1 s2 w R) (hr : ∀ r0 w', R r0 w' → R' r0 w') : C10 p1 s2 w R' :=
  Calls.mono h fun _ _ ⟨r0, he, hR⟩ => ⟨r0, he, hr _ _ hR⟩
set_option maxRecDepth 100000 in
theorem T10 (p1 : Int × Int × Int) (s2 : ByteArray) (w : World) (R : Bool → World → Prop) (h : S10 p1 s2 w R) : C10 p1 s2 w R := by
  have e : fnT Try.prog FF pl10 Try.f10 [.agg #[.int .i64 (p1.1), .int .i64 (p1.2.1), .int .i64 (p1.2.2)], .string s2] w [(.one .bool)] (fun s w => R s w) = S10 p1 s2 w R := by kernel_rfl
  exact (fn_calls okF okM Try.func10 (by kernel_rfl) (by kernel_rfl) (e.mpr h)).mono fun _ _ ⟨s, he, hR⟩ => ⟨s, he, hR⟩

end Go.Proofs.Ytahdpfjikmechaa
