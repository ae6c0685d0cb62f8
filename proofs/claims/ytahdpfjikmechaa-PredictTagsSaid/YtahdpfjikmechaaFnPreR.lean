/- The formulas of 11 functions of the program, written by program (gen.py); the kernel checks each. No condition. -/
import Derived.Test.YtahdpfjikmechaaFn
namespace Go.Proofs.Ytahdpfjikmechaa
open Sh
set_option linter.unusedVariables false

def S51J1 (w : World) (R : Int → World → Prop) (s7 : Unit) (vw8 : World) : Prop :=
  Ld vw8 ((⟨w.heap.size, 0, none⟩ : Addr).add 1) (Value.int .i64) fun (x9 : Int) =>
  Br (decide (x9 < 1)) (R 1 vw8) (Ld vw8 ((⟨w.heap.size, 0, none⟩ : Addr).add 2) (Value.int .i64) fun (x10 : Int) =>
    Br (decide (x10 < 1)) (R 1 vw8) (Ld vw8 ((⟨w.heap.size, 0, none⟩ : Addr).add 1) (Value.int .i64) fun (x11 : Int) =>
      Br (decide (x11 > 8192)) (R 1 vw8) (Ld vw8 ((⟨w.heap.size, 0, none⟩ : Addr).add 2) (Value.int .i64) fun (x12 : Int) =>
        Br (decide (x12 > 8192)) (R 1 vw8) (Ld vw8 ((⟨w.heap.size, 0, none⟩ : Addr).add 1) (Value.int .i64) fun (x13 : Int) =>
          Ld vw8 ((⟨w.heap.size, 0, none⟩ : Addr).add 2) (Value.int .i64) fun (x14 : Int) =>
          Br (decide ((IntKind.i64.wrap (x13 * x14)) > 8192)) (R 1 vw8) (R 0 vw8)))))
/-- foliant/foliantref15.Check -/
def S51 (p1 : Int × Int × Int) (w : World) (R : Int → World → Prop) : Prop :=
  Nw w (.cells #[.int .i64 (p1.1), .int .i64 (p1.2.1), .int .i64 (p1.2.2)] 50) fun vw2 =>
  Join (S51J1 w R) fun (vJ15 : Unit → World → Prop) =>
    Ld vw2 (⟨w.heap.size, 0, none⟩ : Addr) (Value.int .i64) fun (x16 : Int) =>
    Br (x16 != 1) (Ld vw2 (⟨w.heap.size, 0, none⟩ : Addr) (Value.int .i64) fun (x17 : Int) =>
      Br (x17 != 2) (Ld vw2 (⟨w.heap.size, 0, none⟩ : Addr) (Value.int .i64) fun (x18 : Int) =>
        Br (decide (x18 < 10)) (R 1 vw2) (Ld vw2 (⟨w.heap.size, 0, none⟩ : Addr) (Value.int .i64) fun (x19 : Int) =>
          Br (decide (x19 > 15)) (R 1 vw2) (vJ15 () vw2))) (vJ15 () vw2)) (vJ15 () vw2)
def C51 (p1 : Int × Int × Int) (w : World) (R : Int → World → Prop) : Prop :=
  Calls Try.prog 51 #[.agg #[.int .i64 (p1.1), .int .i64 (p1.2.1), .int .i64 (p1.2.2)]] w fun e w' => ∃ r0 : Int, e = .returned (.int .i64 r0) ∧ R r0 w'
def pl51 : Plan := (.seq (.reg .seq) (.join [] [1] (.seq (.reg .seq) (.cond (.seq (.reg .seq) .leaf) .leaf)) (.seq (.seq (.reg .seq) (.cond (.seq (.reg .seq) .leaf) .leaf)) (.seq (.reg .seq) .leaf))))
theorem C51.mono {p1 : Int × Int × Int} {w : World} {R R' : Int → World → Prop} (h : C51 p1 w R) (hr : ∀ r0 w', R r0 w' → R' r0 w') : C51 p1 w R' :=
  Calls.mono h fun _ _ ⟨r0, he, hR⟩ => ⟨r0, he, hr _ _ hR⟩
set_option maxRecDepth 100000 in
theorem T51 (p1 : Int × Int × Int) (w : World) (R : Int → World → Prop) (h : S51 p1 w R) : C51 p1 w R := by
  have e : fnT Try.prog FF pl51 Try.f51 [.agg #[.int .i64 (p1.1), .int .i64 (p1.2.1), .int .i64 (p1.2.2)]] w [(.one (.int .i64))] (fun s w => R s w) = S51 p1 w R := by kernel_rfl
  exact (fn_calls okF okM Try.func51 (by kernel_rfl) (by kernel_rfl) (e.mpr h)).mono fun _ _ ⟨s, he, hR⟩ => ⟨s, he, hR⟩

/-- foliant/foliantref15.Row -/
def S53 (p1 : Int × Int × Int) (w : World) (R : Int → World → Prop) : Prop :=
  Nw w (.cells #[.int .i64 (p1.1), .int .i64 (p1.2.1), .int .i64 (p1.2.2)] 50) fun vw2 =>
  Ld vw2 (⟨w.heap.size, 0, none⟩ : Addr) (Value.int .i64) fun (x8 : Int) =>
  Ld vw2 ((⟨w.heap.size, 0, none⟩ : Addr).add 1) (Value.int .i64) fun (x9 : Int) =>
  Ld vw2 ((⟨w.heap.size, 0, none⟩ : Addr).add 2) (Value.int .i64) fun (x10 : Int) =>
  C51 (x8, x9, x10) vw2 fun r11 vw12 =>
    Br (r11 != 0) (R 0 vw12) (Ld vw12 ((⟨w.heap.size, 0, none⟩ : Addr).add 1) (Value.int .i64) fun (x13 : Int) =>
      Ld vw12 ((⟨w.heap.size, 0, none⟩ : Addr).add 2) (Value.int .i64) fun (x14 : Int) =>
      R (IntKind.i64.wrap (x13 * x14)) vw12)
def C53 (p1 : Int × Int × Int) (w : World) (R : Int → World → Prop) : Prop :=
  Calls Try.prog 53 #[.agg #[.int .i64 (p1.1), .int .i64 (p1.2.1), .int .i64 (p1.2.2)]] w fun e w' => ∃ r0 : Int, e = .returned (.int .i64 r0) ∧ R r0 w'
def pl53 : Plan := (.seq (.reg .seq) (.seq (.seq (.reg .seq) (.cond (.seq (.reg .seq) .leaf) .leaf)) (.seq (.reg .seq) .leaf)))
theorem C53.mono {p1 : Int × Int × Int} {w : World} {R R' : Int → World → Prop} (h : C53 p1 w R) (hr : ∀ r0 w', R r0 w' → R' r0 w') : C53 p1 w R' :=
  Calls.mono h fun _ _ ⟨r0, he, hR⟩ => ⟨r0, he, hr _ _ hR⟩
set_option maxRecDepth 100000 in
theorem T53 (p1 : Int × Int × Int) (w : World) (R : Int → World → Prop) (h : S53 p1 w R) : C53 p1 w R := by
  have e : fnT Try.prog FF pl53 Try.f53 [.agg #[.int .i64 (p1.1), .int .i64 (p1.2.1), .int .i64 (p1.2.2)]] w [(.one (.int .i64))] (fun s w => R s w) = S53 p1 w R := by kernel_rfl
  exact (fn_calls okF okM Try.func53 (by kernel_rfl) (by kernel_rfl) (e.mpr h)).mono fun _ _ ⟨s, he, hR⟩ => ⟨s, he, hR⟩

/-- foliant/foliantref15.far -/
def S97 (n1 : Int) (w : World) (R : Int → World → Prop) : Prop :=
  R (if (IntKind.i64.wrap (0 - n1)) > n1 then (IntKind.i64.wrap (0 - n1)) else n1) w
def C97 (n1 : Int) (w : World) (R : Int → World → Prop) : Prop :=
  Calls Try.prog 97 #[.int .i64 n1] w fun e w' => ∃ r0 : Int, e = .returned (.int .i64 r0) ∧ R r0 w'
def pl97 : Plan := (.seq (.reg .seq) (.seq (.reg .seq) .leaf))
theorem C97.mono {n1 : Int} {w : World} {R R' : Int → World → Prop} (h : C97 n1 w R) (hr : ∀ r0 w', R r0 w' → R' r0 w') : C97 n1 w R' :=
  Calls.mono h fun _ _ ⟨r0, he, hR⟩ => ⟨r0, he, hr _ _ hR⟩
set_option maxRecDepth 100000 in
theorem T97 (n1 : Int) (w : World) (R : Int → World → Prop) (h : S97 n1 w R) : C97 n1 w R := by
  have e : fnT Try.prog FF pl97 Try.f97 [.int .i64 n1] w [(.one (.int .i64))] (fun s w => R s w) = S97 n1 w R := by kernel_rfl
  exact (fn_calls okF okM Try.func97 (by kernel_rfl) (by kernel_rfl) (e.mpr h)).mono fun _ _ ⟨s, he, hR⟩ => ⟨s, he, hR⟩

/-- foliant/foliantref15.Paeth -/
def S57 (a1 : Int) (b2 : Int) (c3 : Int) (w : World) (R : Int → World → Prop) : Prop :=
  Lt (IntKind.i64.wrap ((IntKind.i64.wrap ((IntKind.i64.wrap a1) + (IntKind.i64.wrap b2))) - (IntKind.i64.wrap c3))) fun (x4 : Int) =>
  C97 (IntKind.i64.wrap (x4 - (IntKind.i64.wrap a1))) w fun r5 vw6 =>
    C97 (IntKind.i64.wrap (x4 - (IntKind.i64.wrap b2))) vw6 fun r7 vw8 =>
      C97 (IntKind.i64.wrap (x4 - (IntKind.i64.wrap c3))) vw8 fun r9 vw10 =>
        Br (decide (r5 ≤ r7)) (Br (decide (r5 ≤ r9)) (R a1 vw10) (Br (decide (r7 ≤ r9)) (R b2 vw10) (R c3 vw10))) (Br (decide (r7 ≤ r9)) (R b2 vw10) (R c3 vw10))
def C57 (a1 : Int) (b2 : Int) (c3 : Int) (w : World) (R : Int → World → Prop) : Prop :=
  Calls Try.prog 57 #[.int .u8 a1, .int .u8 b2, .int .u8 c3] w fun e w' => ∃ r0 : Int, e = .returned (.int .u8 r0) ∧ R r0 w'
def pl57 : Plan := (.seq (.reg .seq) (.seq (.reg .seq) (.seq (.reg .seq) (.seq (.seq (.reg .seq) (.cond (.seq (.reg .seq) .leaf) .leaf)) (.seq (.seq (.reg .seq) (.cond (.seq (.reg .seq) .leaf) .leaf)) (.seq (.reg .seq) .leaf))))))
theorem C57.mono {a1 : Int} {b2 : Int} {c3 : Int} {w : World} {R R' : Int → World → Prop} (h : C57 a1 b2 c3 w R) (hr : ∀ r0 w', R r0 w' → R' r0 w') : C57 a1 b2 c3 w R' :=
  Calls.mono h fun _ _ ⟨r0, he, hR⟩ => ⟨r0, he, hr _ _ hR⟩
set_option maxRecDepth 100000 in
theorem T57 (a1 : Int) (b2 : Int) (c3 : Int) (w : World) (R : Int → World → Prop) (h : S57 a1 b2 c3 w R) : C57 a1 b2 c3 w R := by
  have e : fnT Try.prog FF pl57 Try.f57 [.int .u8 a1, .int .u8 b2, .int .u8 c3] w [(.one (.int .u8))] (fun s w => R s w) = S57 a1 b2 c3 w R := by kernel_rfl
  exact (fn_calls okF okM Try.func57 (by kernel_rfl) (by kernel_rfl) (e.mpr h)).mono fun _ _ ⟨s, he, hR⟩ => ⟨s, he, hR⟩

/-- foliant/foliantref15.at -/
def S121 (row1 : Slc) (i2 : Int) (w : World) (R : Int → World → Prop) : Prop :=
  Br (decide (i2 < 0)) (R 0 w) (Br (decide (i2 ≥ ((row1.len : Nat) : Int))) (R 0 w) (0 ≤ i2 ∧ i2 < (row1.len : Nat) ∧ Nn row1.p fun a3 =>
      Ld w (a3.add ((i2).toNat * 1)) (Value.int .u8) fun (x4 : Int) =>
      R x4 w))
def C121 (row1 : Slc) (i2 : Int) (w : World) (R : Int → World → Prop) : Prop :=
  Calls Try.prog 121 #[Slc.v row1, .int .i64 i2] w fun e w' => ∃ r0 : Int, e = .returned (.int .u8 r0) ∧ R r0 w'
def pl121 : Plan := (.seq (.reg .seq) (.seq (.seq (.reg .seq) (.cond (.seq (.reg .seq) .leaf) .leaf)) (.seq (.reg .seq) .leaf)))
theorem C121.mono {row1 : Slc} {i2 : Int} {w : World} {R R' : Int → World → Prop} (h : C121 row1 i2 w R) (hr : ∀ r0 w', R r0 w' → R' r0 w') : C121 row1 i2 w R' :=
  Calls.mono h fun _ _ ⟨r0, he, hR⟩ => ⟨r0, he, hr _ _ hR⟩
set_option maxRecDepth 100000 in
theorem T121 (row1 : Slc) (i2 : Int) (w : World) (R : Int → World → Prop) (h : S121 row1 i2 w R) : C121 row1 i2 w R := by
  have e : fnT Try.prog FF pl121 Try.f121 [Slc.v row1, .int .i64 i2] w [(.one (.int .u8))] (fun s w => R s w) = S121 row1 i2 w R := by kernel_rfl
  exact (fn_calls okF okM Try.func121 (by kernel_rfl) (by kernel_rfl) (e.mpr h)).mono fun _ _ ⟨s, he, hR⟩ => ⟨s, he, hR⟩

/-- foliant/foliantref15.off -/
def S94 (tag1 : Int) (prev2 : Slc) (row3 : Slc) (i4 : Int) (colors5 : Int) (w : World) (R : Int → World → Prop) : Prop :=
  C121 row3 (IntKind.i64.wrap (i4 - colors5)) w fun r6 vw7 =>
    C121 prev2 i4 vw7 fun r8 vw9 =>
      C121 prev2 (IntKind.i64.wrap (i4 - colors5)) vw9 fun r10 vw11 =>
        Br (tag1 == 1) (R r6 vw11) (Br (tag1 == 2) (R r8 vw11) (Br (tag1 == 3) (Lt (IntKind.i64.wrap (Int.tdiv (IntKind.i64.wrap ((IntKind.i64.wrap r6) + (IntKind.i64.wrap r8))) 2)) fun (x12 : Int) =>
              R (IntKind.u8.wrap x12) vw11) (Br (tag1 == 4) (C57 r6 r8 r10 vw11 fun r13 vw14 =>
                  R r13 vw14) (R 0 vw11))))
def C94 (tag1 : Int) (prev2 : Slc) (row3 : Slc) (i4 : Int) (colors5 : Int) (w : World) (R : Int → World → Prop) : Prop :=
  Calls Try.prog 94 #[.int .i64 tag1, Slc.v prev2, Slc.v row3, .int .i64 i4, .int .i64 colors5] w fun e w' => ∃ r0 : Int, e = .returned (.int .u8 r0) ∧ R r0 w'
def pl94 : Plan := (.seq (.reg .seq) (.seq (.reg .seq) (.seq (.seq (.reg .seq) (.block (.seq (.reg .seq) (.cond (.seq (.reg .seq) .leaf) (.seq (.reg .seq) (.cond (.seq (.reg .seq) .leaf) (.seq (.reg .seq) (.cond (.seq (.reg .seq) .leaf) (.seq (.reg .seq) (.cond (.seq (.reg .seq) .leaf) .leaf)))))))))) (.seq (.reg .seq) .leaf))))
theorem C94.mono {tag1 : Int} {prev2 : Slc} {row3 : Slc} {i4 : Int} {colors5 : Int} {w : World} {R R' : Int → World → Prop} (h : C94 tag1 prev2 row3 i4 colors5 w R) (hr : ∀ r0 w', R r0 w' → R' r0 w') : C94 tag1 prev2 row3 i4 colors5 w R' :=
  Calls.mono h fun _ _ ⟨r0, he, hR⟩ => ⟨r0, he, hr _ _ hR⟩
set_option maxRecDepth 100000 in
theorem T94 (tag1 : Int) (prev2 : Slc) (row3 : Slc) (i4 : Int) (colors5 : Int) (w : World) (R : Int → World → Prop) (h : S94 tag1 prev2 row3 i4 colors5 w R) : C94 tag1 prev2 row3 i4 colors5 w R := by
  have e : fnT Try.prog FF pl94 Try.f94 [.int .i64 tag1, Slc.v prev2, Slc.v row3, .int .i64 i4, .int .i64 colors5] w [(.one (.int .u8))] (fun s w => R s w) = S94 tag1 prev2 row3 i4 colors5 w R := by kernel_rfl
  exact (fn_calls okF okM Try.func94 (by kernel_rfl) (by kernel_rfl) (e.mpr h)).mono fun _ _ ⟨s, he, hR⟩ => ⟨s, he, hR⟩

def S92L1 (tag1 : Int) (prev2 : Slc) (row3 : Slc) (colors4 : Int) (R : Slc → World → Prop) (I7 : (Slc × Int) → World → Prop) (s5 : Slc × Int) (vw6 : World) : Prop :=
  Br (decide (s5.2 < ((row3.len : Nat) : Int))) (∃ vS8 : World → Prop, vS8 vw6.drew ∧ 0 ≤ s5.2 ∧ s5.2 < (row3.len : Nat) ∧ Nn row3.p fun a9 =>
    LdS vS8 (a9.add ((s5.2).toNat * 1)) (Value.int .u8) fun (x10 : Int) =>
    C94 tag1 prev2 row3 s5.2 colors4 vw6.drew fun r11 vw12 =>
      vS8 vw12 ∧ Nw vw12 (.cells #[.int .u8 (IntKind.u8.wrap (x10 - r11))] 5) fun vw13 =>
      Rn Try.prog (Builtin.append_ #[97, 97] 97 #[Slc.v s5.1, Slc.v ((⟨some ⟨vw12.heap.size, 0, none⟩, 1, 1⟩ : Slc))]) vw13 Slc.v fun (x14 : Slc) vw15 =>
      I7 (x14, IntKind.i64.wrap (s5.2 + 1)) vw15) (R s5.1 vw6)
/-- foliant/foliantref15.less -/
def S92 (tag1 : Int) (prev2 : Slc) (row3 : Slc) (colors4 : Int) (w : World) (R : Slc → World → Prop) : Prop :=
  Lp (σ := Slc × Int) (S92L1 tag1 prev2 row3 colors4 R) ((⟨none, 0, 0⟩ : Slc), 0) w
def C92 (tag1 : Int) (prev2 : Slc) (row3 : Slc) (colors4 : Int) (w : World) (R : Slc → World → Prop) : Prop :=
  Calls Try.prog 92 #[.int .i64 tag1, Slc.v prev2, Slc.v row3, .int .i64 colors4] w fun e w' => ∃ r0 : Slc, e = .returned (Slc.v r0) ∧ R r0 w'
def pl92 : Plan := (.seq (.reg .seq) (.seq (.reg .seq) (.seq (.seq (.reg .seq) (.block (.loop [(9, (.one .slc)), (10, (.one (.int .i64)))] [0, 1, 2, 3] (.seq (.seq (.reg .seq) (.cond .leaf .leaf)) (.seq (.block (.reg (.held [12] (.take 0 (.take 1 (.take 2 (.take 3 (.take 4 (.take 5 (.take 6 (.take 7 (.take 8 (.take 9 (.eff 10 none (.take 11 (.eff 12 (some [13]) (.eff 13 (some []) (.take 14 .done)))))))))))))))))) (.reg .seq)))))) (.seq (.reg .seq) .leaf))))
theorem C92.mono {tag1 : Int} {prev2 : Slc} {row3 : Slc} {colors4 : Int} {w : World} {R R' : Slc → World → Prop} (h : C92 tag1 prev2 row3 colors4 w R) (hr : ∀ r0 w', R r0 w' → R' r0 w') : C92 tag1 prev2 row3 colors4 w R' :=
  Calls.mono h fun _ _ ⟨r0, he, hR⟩ => ⟨r0, he, hr _ _ hR⟩
set_option maxRecDepth 100000 in
theorem T92 (tag1 : Int) (prev2 : Slc) (row3 : Slc) (colors4 : Int) (w : World) (R : Slc → World → Prop) (h : S92 tag1 prev2 row3 colors4 w R) : C92 tag1 prev2 row3 colors4 w R := by
  have e : fnT Try.prog FF pl92 Try.f92 [.int .i64 tag1, Slc.v prev2, Slc.v row3, .int .i64 colors4] w [(.one .slc)] (fun s w => R s w) = S92 tag1 prev2 row3 colors4 w R := by kernel_rfl
  exact (fn_calls okF okM Try.func92 (by kernel_rfl) (by kernel_rfl) (e.mpr h)).mono fun _ _ ⟨s, he, hR⟩ => ⟨s, he, hR⟩

def S91L1 (s4 : Int × Int × Int) (I6 : (Int × Int × Int) → World → Prop) (r7 : Slc) (I19 : (Int × Int) → World → Prop) (s17 : Int × Int) (vw18 : World) : Prop :=
  Br (decide (s17.2 < ((r7.len : Nat) : Int))) (0 ≤ s17.2 ∧ s17.2 < (r7.len : Nat) ∧ Nn r7.p fun a20 =>
    Ld vw18.drew (a20.add ((s17.2).toNat * 1)) (Value.int .u8) fun (x21 : Int) =>
    0 ≤ s17.2 ∧ s17.2 < (r7.len : Nat) ∧ Nn r7.p fun a22 =>
    Ld vw18.drew (a22.add ((s17.2).toNat * 1)) (Value.int .u8) fun (x23 : Int) =>
    Lt ((if (IntKind.i64.wrap (256 - (IntKind.i64.wrap x23))) < (IntKind.i64.wrap x21) then (IntKind.i64.wrap (256 - (IntKind.i64.wrap x23))) else (IntKind.i64.wrap x21))) fun (x24 : Int) =>
    I19 (IntKind.i64.wrap (s17.1 + x24), IntKind.i64.wrap (s17.2 + 1)) vw18.drew) (Br (s4.2.2 == 0) (I6 (s4.2.2, s17.1, IntKind.i64.wrap (s4.2.2 + 1)) vw18) (Br (decide (s17.1 < s4.2.1)) (I6 (s4.2.2, s17.1, IntKind.i64.wrap (s4.2.2 + 1)) vw18) (I6 (s4.1, s4.2.1, IntKind.i64.wrap (s4.2.2 + 1)) vw18)))
def S91L2 (prev1 : Slc) (row2 : Slc) (colors3 : Int) (R : Int → World → Prop) (I6 : (Int × Int × Int) → World → Prop) (s4 : Int × Int × Int) (vw5 : World) : Prop :=
  Br (decide (s4.2.2 < 5)) (C92 s4.2.2 prev1 row2 colors3 vw5 fun r7 vw8 =>
      Lp (σ := Int × Int) (S91L1 s4 I6 r7) (0, 0) vw8) (R s4.1 vw5)
/-- foliant/foliantref15.best -/
def S91 (prev1 : Slc) (row2 : Slc) (colors3 : Int) (w : World) (R : Int → World → Prop) : Prop :=
  Lp (σ := Int × Int × Int) (S91L2 prev1 row2 colors3 R) (0, 0, 0) w
def C91 (prev1 : Slc) (row2 : Slc) (colors3 : Int) (w : World) (R : Int → World → Prop) : Prop :=
  Calls Try.prog 91 #[Slc.v prev1, Slc.v row2, .int .i64 colors3] w fun e w' => ∃ r0 : Int, e = .returned (.int .i64 r0) ∧ R r0 w'
def pl91 : Plan := (.seq (.reg .seq) (.seq (.reg .seq) (.seq (.seq (.reg .seq) (.block (.loop [(7, (.one (.int .i64))), (8, (.one (.int .i64))), (9, (.one (.int .i64)))] [0, 1, 2] (.seq (.seq (.reg .seq) (.cond .leaf .leaf)) (.seq (.block (.seq (.reg .seq) (.seq (.seq (.reg .seq) (.block (.loop [(11, (.one (.int .i64))), (12, (.one (.int .i64)))] [0, 1, 2, 7, 8, 9, 10] (.seq (.seq (.reg .seq) (.cond .leaf .leaf)) (.seq (.block (.reg .still)) (.reg .seq)))))) (.seq (.reg .seq) (.cond (.seq (.reg .seq) (.reg .seq)) .leaf))))) (.reg .seq)))))) (.seq (.reg .seq) .leaf))))
theorem C91.mono {prev1 : Slc} {row2 : Slc} {colors3 : Int} {w : World} {R R' : Int → World → Prop} (h : C91 prev1 row2 colors3 w R) (hr : ∀ r0 w', R r0 w' → R' r0 w') : C91 prev1 row2 colors3 w R' :=
  Calls.mono h fun _ _ ⟨r0, he, hR⟩ => ⟨r0, he, hr _ _ hR⟩
set_option maxRecDepth 100000 in
theorem T91 (prev1 : Slc) (row2 : Slc) (colors3 : Int) (w : World) (R : Int → World → Prop) (h : S91 prev1 row2 colors3 w R) : C91 prev1 row2 colors3 w R := by
  have e : fnT Try.prog FF pl91 Try.f91 [Slc.v prev1, Slc.v row2, .int .i64 colors3] w [(.one (.int .i64))] (fun s w => R s w) = S91 prev1 row2 colors3 w R := by kernel_rfl
  exact (fn_calls okF okM Try.func91 (by kernel_rfl) (by kernel_rfl) (e.mpr h)).mono fun _ _ ⟨s, he, hR⟩ => ⟨s, he, hR⟩

def S47L1 (w : World) (s2 : ByteArray) (r19 : Int) (R : ByteArray → Int → World → Prop) (I27 : (Slc × Slc × Int) → World → Prop) (s25 : Slc × Slc × Int) (vw26 : World) : Prop :=
  Br (decide (s25.2.2 < (((s2).size : Nat) : Int))) (0 ≤ (IntKind.i64.wrap (s25.2.2 + r19)) ∧ (IntKind.i64.wrap (s25.2.2 + r19)) ≤ (((s2).size : Nat) : Int) ∧ 0 ≤ s25.2.2 ∧ s25.2.2 ≤ (((IntKind.i64.wrap (s25.2.2 + r19)).toNat : Nat) : Int) ∧ Rn Try.prog (convert 9 97 (.string (s2.extract ((s25.2.2).toNat) ((IntKind.i64.wrap (s25.2.2 + r19)).toNat)))) vw26 Slc.v fun (x28 : Slc) vw29 =>
    Ld vw29 (⟨w.heap.size, 0, none⟩ : Addr) (Value.int .i64) fun (x41 : Int) =>
    Br (decide (x41 > 2)) (Ld vw29 (⟨w.heap.size, 0, none⟩ : Addr) (Value.int .i64) fun (x42 : Int) =>
      Br ((IntKind.i64.wrap (x42 - 10)) == 5) (Ld vw29 ((⟨w.heap.size, 0, none⟩ : Addr).add 1) (Value.int .i64) fun (x43 : Int) =>
        C91 s25.1 x28 x43 vw29 fun r44 vw45 =>
          Nw vw45 (.cells #[.int .u8 (IntKind.u8.wrap r44)] 5) fun vw46 =>
          Rn Try.prog (Builtin.append_ #[97, 97] 97 #[Slc.v s25.2.1, Slc.v ((⟨some ⟨vw45.heap.size, 0, none⟩, 1, 1⟩ : Slc))]) vw46 Slc.v fun (x47 : Slc) vw48 =>
          Ld vw48 ((⟨w.heap.size, 0, none⟩ : Addr).add 1) (Value.int .i64) fun (x49 : Int) =>
          C92 r44 s25.1 x28 x49 vw48 fun r50 vw51 =>
            Rn Try.prog (Builtin.append_ #[97, 97] 97 #[Slc.v x47, Slc.v r50]) vw51 Slc.v fun (x52 : Slc) vw53 =>
            I27 (x28, x52, IntKind.i64.wrap (s25.2.2 + r19)) vw53) (Nw vw29 (.cells #[.int .u8 (IntKind.u8.wrap (IntKind.i64.wrap (x42 - 10)))] 5) fun vw54 =>
        Rn Try.prog (Builtin.append_ #[97, 97] 97 #[Slc.v s25.2.1, Slc.v ((⟨some ⟨vw29.heap.size, 0, none⟩, 1, 1⟩ : Slc))]) vw54 Slc.v fun (x55 : Slc) vw56 =>
        Ld vw56 ((⟨w.heap.size, 0, none⟩ : Addr).add 1) (Value.int .i64) fun (x57 : Int) =>
        C92 (IntKind.i64.wrap (x42 - 10)) s25.1 x28 x57 vw56 fun r58 vw59 =>
          Rn Try.prog (Builtin.append_ #[97, 97] 97 #[Slc.v x55, Slc.v r58]) vw59 Slc.v fun (x60 : Slc) vw61 =>
          I27 (x28, x60, IntKind.i64.wrap (s25.2.2 + r19)) vw61)) (Ld vw29 ((⟨w.heap.size, 0, none⟩ : Addr).add 1) (Value.int .i64) fun (x62 : Int) =>
      C92 1 s25.1 x28 x62 vw29 fun r63 vw64 =>
        Rn Try.prog (Builtin.append_ #[97, 97] 97 #[Slc.v s25.2.1, Slc.v r63]) vw64 Slc.v fun (x65 : Slc) vw66 =>
        I27 (x28, x65, IntKind.i64.wrap (s25.2.2 + r19)) vw66)) (Rn Try.prog (convert 97 9 (Slc.v s25.2.1)) vw26 Value.string fun (x67 : ByteArray) vw68 =>
    R x67 0 vw68)
def S47J1 (w : World) (s2 : ByteArray) (r19 : Int) (R : ByteArray → Int → World → Prop) (s23 : Unit) (vw24 : World) : Prop :=
  Lp (σ := Slc × Slc × Int) (S47L1 w s2 r19 R) ((⟨none, 0, 0⟩ : Slc), (⟨none, 0, 0⟩ : Slc), 0) vw24
/-- foliant/foliantref15.Encode -/
def S47 (p1 : Int × Int × Int) (s2 : ByteArray) (w : World) (R : ByteArray → Int → World → Prop) : Prop :=
  Nw w (.cells #[.int .i64 (p1.1), .int .i64 (p1.2.1), .int .i64 (p1.2.2)] 50) fun vw3 =>
  Ld vw3 (⟨w.heap.size, 0, none⟩ : Addr) (Value.int .i64) fun (x9 : Int) =>
  Ld vw3 ((⟨w.heap.size, 0, none⟩ : Addr).add 1) (Value.int .i64) fun (x10 : Int) =>
  Ld vw3 ((⟨w.heap.size, 0, none⟩ : Addr).add 2) (Value.int .i64) fun (x11 : Int) =>
  C51 (x9, x10, x11) vw3 fun r12 vw13 =>
    Br (r12 != 0) (R (⟨#[]⟩ : ByteArray) 1 vw13) (Br (decide ((((s2).size : Nat) : Int) > 1048576)) (R (⟨#[]⟩ : ByteArray) 5 vw13) (Ld vw13 (⟨w.heap.size, 0, none⟩ : Addr) (Value.int .i64) fun (x15 : Int) =>
        Br (x15 == 1) (R s2 0 vw13) (Ld vw13 (⟨w.heap.size, 0, none⟩ : Addr) (Value.int .i64) fun (x16 : Int) =>
          Ld vw13 ((⟨w.heap.size, 0, none⟩ : Addr).add 1) (Value.int .i64) fun (x17 : Int) =>
          Ld vw13 ((⟨w.heap.size, 0, none⟩ : Addr).add 2) (Value.int .i64) fun (x18 : Int) =>
          C53 (x16, x17, x18) vw13 fun r19 vw20 =>
            r19 ≠ 0 ∧ Br ((Int.tmod (((s2).size : Nat) : Int) r19) != 0) (R (⟨#[]⟩ : ByteArray) 16 vw20) (Join (S47J1 w s2 r19 R) fun (vJ69 : Unit → World → Prop) =>
                Ld vw20 (⟨w.heap.size, 0, none⟩ : Addr) (Value.int .i64) fun (x70 : Int) =>
                Br (decide (x70 > 2)) (r19 ≠ 0 ∧ Lt (IntKind.i64.wrap ((((s2).size : Nat) : Int) + (IntKind.i64.wrap (Int.tdiv (((s2).size : Nat) : Int) r19)))) fun (x71 : Int) =>
                  Br (decide (x71 > 1048576)) (R (⟨#[]⟩ : ByteArray) 5 vw20) (vJ69 () vw20)) (vJ69 () vw20)))))
def C47 (p1 : Int × Int × Int) (s2 : ByteArray) (w : World) (R : ByteArray → Int → World → Prop) : Prop :=
  Calls Try.prog 47 #[.agg #[.int .i64 (p1.1), .int .i64 (p1.2.1), .int .i64 (p1.2.2)], .string s2] w fun e w' => ∃ r0 : ByteArray, ∃ r1 : Int, e = .returned (.tuple #[.string r0, .int .i64 r1]) ∧ R r0 r1 w'
def pl47 : Plan := (.seq (.reg .seq) (.seq (.seq (.reg .seq) (.cond (.seq (.reg .seq) .leaf) .leaf)) (.seq (.seq (.reg .seq) (.cond (.seq (.reg .seq) .leaf) .leaf)) (.seq (.seq (.reg .seq) (.cond (.seq (.reg .seq) .leaf) .leaf)) (.seq (.reg .seq) (.seq (.seq (.reg .seq) (.cond (.seq (.reg .seq) .leaf) .leaf)) (.join [] [1, 2, 6] (.seq (.reg .seq) (.cond (.seq (.reg .seq) .leaf) .leaf)) (.seq (.reg .seq) (.seq (.seq (.reg .seq) (.block (.loop [(7, (.one .slc)), (8, (.one .slc)), (9, (.one (.int .i64)))] [1, 2, 6] (.seq (.seq (.reg .seq) (.cond .leaf .leaf)) (.seq (.block (.seq (.reg .seq) (.seq (.reg .seq) (.seq (.seq (.reg .seq) (.cond (.seq (.reg .seq) (.seq (.seq (.reg .seq) (.cond (.reg .seq) .leaf)) (.reg .seq))) .leaf)) (.seq (.reg .seq) (.reg .seq)))))) (.reg .seq)))))) (.seq (.reg .seq) .leaf))))))))))
theorem C47.mono {p1 : Int × Int × Int} {s2 : ByteArray} {w : World} {R R' : ByteArray → Int → World → Prop} (h : C47 p1 s2 w R) (hr : ∀ r0 r1 w', R r0 r1 w' → R' r0 r1 w') : C47 p1 s2 w R' :=
  Calls.mono h fun _ _ ⟨r0, r1, he, hR⟩ => ⟨r0, r1, he, hr _ _ _ hR⟩
set_option maxRecDepth 100000 in
theorem T47 (p1 : Int × Int × Int) (s2 : ByteArray) (w : World) (R : ByteArray → Int → World → Prop) (h : S47 p1 s2 w R) : C47 p1 s2 w R := by
  have e : fnT Try.prog FF pl47 Try.f47 [.agg #[.int .i64 (p1.1), .int .i64 (p1.2.1), .int .i64 (p1.2.2)], .string s2] w [(.one .str), (.one (.int .i64))] (fun s w => R s.1 s.2 w) = S47 p1 s2 w R := by kernel_rfl
  exact (fn_calls okF okM Try.func47 (by kernel_rfl) (by kernel_rfl) (e.mpr h)).mono fun _ _ ⟨s, he, hR⟩ => ⟨s.1, s.2, he, hR⟩

def S49L1 (w : World) (s2 : ByteArray) (r19 : Int) (s22 : Int) (s24 : Slc × Slc × Int) (I26 : (Slc × Slc × Int) → World → Prop) (s27 : Int) (I41 : (Slc × Int) → World → Prop) (s39 : Slc × Int) (vw40 : World) : Prop :=
  Br (decide (s39.2 < r19)) (∃ vS42 : World → Prop, vS42 vw40.drew ∧ 0 ≤ (IntKind.i64.wrap ((IntKind.i64.wrap (s24.2.2 + s22)) + s39.2)) ∧ (IntKind.i64.wrap ((IntKind.i64.wrap (s24.2.2 + s22)) + s39.2)) < ((s2).size : Nat) ∧ LdS vS42 ((⟨w.heap.size, 0, none⟩ : Addr).add 1) (Value.int .i64) fun (x43 : Int) =>
    C94 s27 s24.1 s39.1 s39.2 x43 vw40.drew fun r44 vw45 =>
      Nw vw45 (.cells #[.int .u8 (IntKind.u8.wrap ((bAt s2 (IntKind.i64.wrap ((IntKind.i64.wrap (s24.2.2 + s22)) + s39.2))) + r44))] 5) fun vw46 =>
      Rn Try.prog (Builtin.append_ #[97, 97] 97 #[Slc.v s39.1, Slc.v ((⟨some ⟨vw45.heap.size, 0, none⟩, 1, 1⟩ : Slc))]) vw46 Slc.v fun (x47 : Slc) vw48 =>
      I41 (x47, IntKind.i64.wrap (s39.2 + 1)) vw48) (Rn Try.prog (Builtin.append_ #[97, 97] 97 #[Slc.v s24.2.1, Slc.v s39.1]) vw40 Slc.v fun (x49 : Slc) vw50 =>
    I26 (s39.1, x49, IntKind.i64.wrap (s24.2.2 + (IntKind.i64.wrap (r19 + s22)))) vw50)
def S49J1 (w : World) (s2 : ByteArray) (r19 : Int) (s22 : Int) (s24 : Slc × Slc × Int) (I26 : (Slc × Slc × Int) → World → Prop) (R : ByteArray → Int → World → Prop) (s27 : Int) (vw28 : World) : Prop :=
  Br (decide (s27 > 4)) (R (⟨#[]⟩ : ByteArray) 3 vw28) (Lp (σ := Slc × Int) (S49L1 w s2 r19 s22 s24 I26 s27) ((⟨none, 0, 0⟩ : Slc), 0) vw28)
def S49L2 (w : World) (s2 : ByteArray) (r19 : Int) (s22 : Int) (R : ByteArray → Int → World → Prop) (I26 : (Slc × Slc × Int) → World → Prop) (s24 : Slc × Slc × Int) (vw25 : World) : Prop :=
  Br (decide (s24.2.2 < (((s2).size : Nat) : Int))) (Join (S49J1 w s2 r19 s22 s24 I26 R) fun (vJ51 : Int → World → Prop) =>
      Br (s22 == 1) (0 ≤ s24.2.2 ∧ s24.2.2 < ((s2).size : Nat) ∧ vJ51 (IntKind.i64.wrap (bAt s2 s24.2.2)) vw25) (vJ51 1 vw25)) (Rn Try.prog (convert 97 9 (Slc.v s24.2.1)) vw25 Value.string fun (x52 : ByteArray) vw53 =>
    R x52 0 vw53)
def S49J2 (w : World) (s2 : ByteArray) (r19 : Int) (R : ByteArray → Int → World → Prop) (s22 : Int) (vw23 : World) : Prop :=
  (IntKind.i64.wrap (r19 + s22)) ≠ 0 ∧ Br ((Int.tmod (((s2).size : Nat) : Int) (IntKind.i64.wrap (r19 + s22))) != 0) (R (⟨#[]⟩ : ByteArray) 16 vw23) (Lp (σ := Slc × Slc × Int) (S49L2 w s2 r19 s22 R) ((⟨none, 0, 0⟩ : Slc), (⟨none, 0, 0⟩ : Slc), 0) vw23)
/-- foliant/foliantref15.Decode -/
def S49 (p1 : Int × Int × Int) (s2 : ByteArray) (w : World) (R : ByteArray → Int → World → Prop) : Prop :=
  Nw w (.cells #[.int .i64 (p1.1), .int .i64 (p1.2.1), .int .i64 (p1.2.2)] 50) fun vw3 =>
  Ld vw3 (⟨w.heap.size, 0, none⟩ : Addr) (Value.int .i64) fun (x9 : Int) =>
  Ld vw3 ((⟨w.heap.size, 0, none⟩ : Addr).add 1) (Value.int .i64) fun (x10 : Int) =>
  Ld vw3 ((⟨w.heap.size, 0, none⟩ : Addr).add 2) (Value.int .i64) fun (x11 : Int) =>
  C51 (x9, x10, x11) vw3 fun r12 vw13 =>
    Br (r12 != 0) (R (⟨#[]⟩ : ByteArray) 1 vw13) (Br (decide ((((s2).size : Nat) : Int) > 1048576)) (R (⟨#[]⟩ : ByteArray) 5 vw13) (Ld vw13 (⟨w.heap.size, 0, none⟩ : Addr) (Value.int .i64) fun (x15 : Int) =>
        Br (x15 == 1) (R s2 0 vw13) (Ld vw13 (⟨w.heap.size, 0, none⟩ : Addr) (Value.int .i64) fun (x16 : Int) =>
          Ld vw13 ((⟨w.heap.size, 0, none⟩ : Addr).add 1) (Value.int .i64) fun (x17 : Int) =>
          Ld vw13 ((⟨w.heap.size, 0, none⟩ : Addr).add 2) (Value.int .i64) fun (x18 : Int) =>
          C53 (x16, x17, x18) vw13 fun r19 vw20 =>
            Join (S49J2 w s2 r19 R) fun (vJ54 : Int → World → Prop) =>
              Ld vw20 (⟨w.heap.size, 0, none⟩ : Addr) (Value.int .i64) fun (x55 : Int) =>
              Br (decide (x55 > 2)) (vJ54 1 vw20) (vJ54 0 vw20))))
def C49 (p1 : Int × Int × Int) (s2 : ByteArray) (w : World) (R : ByteArray → Int → World → Prop) : Prop :=
  Calls Try.prog 49 #[.agg #[.int .i64 (p1.1), .int .i64 (p1.2.1), .int .i64 (p1.2.2)], .string s2] w fun e w' => ∃ r0 : ByteArray, ∃ r1 : Int, e = .returned (.tuple #[.string r0, .int .i64 r1]) ∧ R r0 r1 w'
def pl49 : Plan := (.seq (.reg .seq) (.seq (.seq (.reg .seq) (.cond (.seq (.reg .seq) .leaf) .leaf)) (.seq (.seq (.reg .seq) (.cond (.seq (.reg .seq) .leaf) .leaf)) (.seq (.seq (.reg .seq) (.cond (.seq (.reg .seq) .leaf) .leaf)) (.seq (.reg .seq) (.join [(7, (.one (.int .i64)))] [1, 2, 6] (.seq (.reg .seq) (.cond (.reg .seq) .leaf)) (.seq (.seq (.reg .seq) (.cond (.seq (.reg .seq) .leaf) .leaf)) (.seq (.reg .seq) (.seq (.seq (.reg .seq) (.block (.loop [(8, (.one .slc)), (9, (.one .slc)), (10, (.one (.int .i64)))] [1, 2, 6, 7] (.seq (.seq (.reg .seq) (.cond .leaf .leaf)) (.seq (.block (.seq (.reg .seq) (.join [(11, (.one (.int .i64)))] [1, 2, 6, 7, 8, 9, 10] (.seq (.reg .seq) (.cond (.reg .seq) .leaf)) (.seq (.seq (.reg .seq) (.cond (.seq (.reg .seq) .leaf) .leaf)) (.seq (.reg .seq) (.seq (.seq (.reg .seq) (.block (.loop [(12, (.one .slc)), (13, (.one (.int .i64)))] [1, 2, 6, 7, 8, 9, 10, 11] (.seq (.seq (.reg .seq) (.cond .leaf .leaf)) (.seq (.block (.reg (.held [14] (.take 0 (.take 1 (.take 2 (.take 3 (.take 4 (.take 5 (.take 6 (.take 7 (.take 8 (.take 9 (.take 10 (.take 11 (.take 12 (.take 13 (.eff 14 (some [16]) (.take 15 (.eff 16 (some [17]) (.eff 17 (some []) (.take 18 .done)))))))))))))))))))))) (.reg .seq)))))) (.seq (.reg .seq) (.reg .seq)))))))) (.reg .seq)))))) (.seq (.reg .seq) .leaf))))))))))
theorem C49.mono {p1 : Int × Int × Int} {s2 : ByteArray} {w : World} {R R' : ByteArray → Int → World → Prop} (h : C49 p1 s2 w R) (hr : ∀ r0 r1 w', R r0 r1 w' → R' r0 r1 w') : C49 p1 s2 w R' :=
  Calls.mono h fun _ _ ⟨r0, r1, he, hR⟩ => ⟨r0, r1, he, hr _ _ _ hR⟩
set_option maxRecDepth 100000 in
theorem T49 (p1 : Int × Int × Int) (s2 : ByteArray) (w : World) (R : ByteArray → Int → World → Prop) (h : S49 p1 s2 w R) : C49 p1 s2 w R := by
  have e : fnT Try.prog FF pl49 Try.f49 [.agg #[.int .i64 (p1.1), .int .i64 (p1.2.1), .int .i64 (p1.2.2)], .string s2] w [(.one .str), (.one (.int .i64))] (fun s w => R s.1 s.2 w) = S49 p1 s2 w R := by kernel_rfl
  exact (fn_calls okF okM Try.func49 (by kernel_rfl) (by kernel_rfl) (e.mpr h)).mono fun _ _ ⟨s, he, hR⟩ => ⟨s.1, s.2, he, hR⟩

/-- foliant/foliantref15.Best -/
def S55 (prev1 : ByteArray) (row2 : ByteArray) (colors3 : Int) (w : World) (R : Int → World → Prop) : Prop :=
  Rn Try.prog (convert 9 97 (.string prev1)) w Slc.v fun (x4 : Slc) vw5 =>
  Rn Try.prog (convert 9 97 (.string row2)) vw5 Slc.v fun (x6 : Slc) vw7 =>
  C91 x4 x6 (if 1 > colors3 then 1 else colors3) vw7 fun r8 vw9 =>
    R r8 vw9
def C55 (prev1 : ByteArray) (row2 : ByteArray) (colors3 : Int) (w : World) (R : Int → World → Prop) : Prop :=
  Calls Try.prog 55 #[.string prev1, .string row2, .int .i64 colors3] w fun e w' => ∃ r0 : Int, e = .returned (.int .i64 r0) ∧ R r0 w'
def pl55 : Plan := (.seq (.reg .seq) (.seq (.reg .seq) .leaf))
theorem C55.mono {prev1 : ByteArray} {row2 : ByteArray} {colors3 : Int} {w : World} {R R' : Int → World → Prop} (h : C55 prev1 row2 colors3 w R) (hr : ∀ r0 w', R r0 w' → R' r0 w') : C55 prev1 row2 colors3 w R' :=
  Calls.mono h fun _ _ ⟨r0, he, hR⟩ => ⟨r0, he, hr _ _ hR⟩
set_option maxRecDepth 100000 in
theorem T55 (prev1 : ByteArray) (row2 : ByteArray) (colors3 : Int) (w : World) (R : Int → World → Prop) (h : S55 prev1 row2 colors3 w R) : C55 prev1 row2 colors3 w R := by
  have e : fnT Try.prog FF pl55 Try.f55 [.string prev1, .string row2, .int .i64 colors3] w [(.one (.int .i64))] (fun s w => R s w) = S55 prev1 row2 colors3 w R := by kernel_rfl
  exact (fn_calls okF okM Try.func55 (by kernel_rfl) (by kernel_rfl) (e.mpr h)).mono fun _ _ ⟨s, he, hR⟩ => ⟨s, he, hR⟩

end Go.Proofs.Ytahdpfjikmechaa
