/- The formulas of 7 functions of the program, written by program (gen.py); the kernel checks each. No condition. -/
import Derived.Test.YtjlaijhmnlkpiaaFn
import Derived.Test.YtjlaijhmnlkpiaaFnFix
import Derived.Test.YtjlaijhmnlkpiaaFnMat
import Derived.Test.YtjlaijhmnlkpiaaFnObj
namespace Go.Proofs.Ytjlaijhmnlkpiaa
open Sh
set_option linter.unusedVariables false

def C13 (w : World) (R : Bool → World → Prop) : Prop :=
  Calls Try.prog 13 #[] w fun e w' => ∃ r0 : Bool, e = .returned (.bool r0) ∧ R r0 w'
theorem C13.mono {w : World} {R R' : Bool → World → Prop} (h : C13 w R) (hr : ∀ r0 w', R r0 w' → R' r0 w') : C13 w R' :=
  Calls.mono h fun _ _ ⟨r0, he, hR⟩ => ⟨r0, he, hr _ _ hR⟩
def C35 (m1 : Int × Int × Int × Int × Int × Int) (w : World) (R : (Int × Int × Int × Int × Int × Int) → Bool → World → Prop) : Prop :=
  Calls Try.prog 35 #[.agg #[.int .i64 (m1.1), .int .i64 (m1.2.1), .int .i64 (m1.2.2.1), .int .i64 (m1.2.2.2.1), .int .i64 (m1.2.2.2.2.1), .int .i64 (m1.2.2.2.2.2)]] w fun e w' => ∃ r0 : Int × Int × Int × Int × Int × Int, ∃ r1 : Bool, e = .returned (.tuple #[.agg #[.int .i64 (r0.1), .int .i64 (r0.2.1), .int .i64 (r0.2.2.1), .int .i64 (r0.2.2.2.1), .int .i64 (r0.2.2.2.2.1), .int .i64 (r0.2.2.2.2.2)], .bool r1]) ∧ R r0 r1 w'
theorem C35.mono {m1 : Int × Int × Int × Int × Int × Int} {w : World} {R R' : (Int × Int × Int × Int × Int × Int) → Bool → World → Prop} (h : C35 m1 w R) (hr : ∀ r0 r1 w', R r0 r1 w' → R' r0 r1 w') : C35 m1 w R' :=
  Calls.mono h fun _ _ ⟨r0, r1, he, hR⟩ => ⟨r0, r1, he, hr _ _ _ hR⟩
def C36 (n1 : Int) (sum2 : Int) (w : World) (R : Bool → World → Prop) : Prop :=
  Calls Try.prog 36 #[.int .i64 n1, .int .i64 sum2] w fun e w' => ∃ r0 : Bool, e = .returned (.bool r0) ∧ R r0 w'
theorem C36.mono {n1 : Int} {sum2 : Int} {w : World} {R R' : Bool → World → Prop} (h : C36 n1 sum2 w R) (hr : ∀ r0 w', R r0 w' → R' r0 w') : C36 n1 sum2 w R' :=
  Calls.mono h fun _ _ ⟨r0, he, hR⟩ => ⟨r0, he, hr _ _ hR⟩
def C4 (m1 : Int × Int × Int × Int × Int × Int) (p2 : Int × Int) (w : World) (R : Bool → World → Prop) : Prop :=
  Calls Try.prog 4 #[.agg #[.int .i64 (m1.1), .int .i64 (m1.2.1), .int .i64 (m1.2.2.1), .int .i64 (m1.2.2.2.1), .int .i64 (m1.2.2.2.2.1), .int .i64 (m1.2.2.2.2.2)], .agg #[.int .i64 (p2.1), .int .i64 (p2.2)]] w fun e w' => ∃ r0 : Bool, e = .returned (.bool r0) ∧ R r0 w'
theorem C4.mono {m1 : Int × Int × Int × Int × Int × Int} {p2 : Int × Int} {w : World} {R R' : Bool → World → Prop} (h : C4 m1 p2 w R) (hr : ∀ r0 w', R r0 w' → R' r0 w') : C4 m1 p2 w R' :=
  Calls.mono h fun _ _ ⟨r0, he, hR⟩ => ⟨r0, he, hr _ _ hR⟩
def C5 (a1 : Int × Int × Int × Int × Int × Int) (b2 : Int × Int × Int × Int × Int × Int) (c3 : Int × Int × Int × Int × Int × Int) (p4 : Int × Int) (w : World) (R : Bool → World → Prop) : Prop :=
  Calls Try.prog 5 #[.agg #[.int .i64 (a1.1), .int .i64 (a1.2.1), .int .i64 (a1.2.2.1), .int .i64 (a1.2.2.2.1), .int .i64 (a1.2.2.2.2.1), .int .i64 (a1.2.2.2.2.2)], .agg #[.int .i64 (b2.1), .int .i64 (b2.2.1), .int .i64 (b2.2.2.1), .int .i64 (b2.2.2.2.1), .int .i64 (b2.2.2.2.2.1), .int .i64 (b2.2.2.2.2.2)], .agg #[.int .i64 (c3.1), .int .i64 (c3.2.1), .int .i64 (c3.2.2.1), .int .i64 (c3.2.2.2.1), .int .i64 (c3.2.2.2.2.1), .int .i64 (c3.2.2.2.2.2)], .agg #[.int .i64 (p4.1), .int .i64 (p4.2)]] w fun e w' => ∃ r0 : Bool, e = .returned (.bool r0) ∧ R r0 w'
theorem C5.mono {a1 : Int × Int × Int × Int × Int × Int} {b2 : Int × Int × Int × Int × Int × Int} {c3 : Int × Int × Int × Int × Int × Int} {p4 : Int × Int} {w : World} {R R' : Bool → World → Prop} (h : C5 a1 b2 c3 p4 w R) (hr : ∀ r0 w', R r0 w' → R' r0 w') : C5 a1 b2 c3 p4 w R' :=
  Calls.mono h fun _ _ ⟨r0, he, hR⟩ => ⟨r0, he, hr _ _ hR⟩
def C6 (a1 : Int × Int × Int × Int × Int × Int) (b2 : Int × Int × Int × Int × Int × Int) (p3 : Int × Int) (w : World) (R : Bool → World → Prop) : Prop :=
  Calls Try.prog 6 #[.agg #[.int .i64 (a1.1), .int .i64 (a1.2.1), .int .i64 (a1.2.2.1), .int .i64 (a1.2.2.2.1), .int .i64 (a1.2.2.2.2.1), .int .i64 (a1.2.2.2.2.2)], .agg #[.int .i64 (b2.1), .int .i64 (b2.2.1), .int .i64 (b2.2.2.1), .int .i64 (b2.2.2.2.1), .int .i64 (b2.2.2.2.2.1), .int .i64 (b2.2.2.2.2.2)], .agg #[.int .i64 (p3.1), .int .i64 (p3.2)]] w fun e w' => ∃ r0 : Bool, e = .returned (.bool r0) ∧ R r0 w'
theorem C6.mono {a1 : Int × Int × Int × Int × Int × Int} {b2 : Int × Int × Int × Int × Int × Int} {p3 : Int × Int} {w : World} {R R' : Bool → World → Prop} (h : C6 a1 b2 p3 w R) (hr : ∀ r0 w', R r0 w' → R' r0 w') : C6 a1 b2 p3 w R' :=
  Calls.mono h fun _ _ ⟨r0, he, hR⟩ => ⟨r0, he, hr _ _ hR⟩
def C7 (m1 : Int × Int × Int × Int × Int × Int) (r2 : Int × Int × Int × Int) (p3 : Int × Int) (w : World) (R : Bool → World → Prop) : Prop :=
  Calls Try.prog 7 #[.agg #[.int .i64 (m1.1), .int .i64 (m1.2.1), .int .i64 (m1.2.2.1), .int .i64 (m1.2.2.2.1), .int .i64 (m1.2.2.2.2.1), .int .i64 (m1.2.2.2.2.2)], .agg #[.int .i64 (r2.1), .int .i64 (r2.2.1), .int .i64 (r2.2.2.1), .int .i64 (r2.2.2.2)], .agg #[.int .i64 (p3.1), .int .i64 (p3.2)]] w fun e w' => ∃ r0 : Bool, e = .returned (.bool r0) ∧ R r0 w'
theorem C7.mono {m1 : Int × Int × Int × Int × Int × Int} {r2 : Int × Int × Int × Int} {p3 : Int × Int} {w : World} {R R' : Bool → World → Prop} (h : C7 m1 r2 p3 w R) (hr : ∀ r0 w', R r0 w' → R' r0 w') : C7 m1 r2 p3 w R' :=
  Calls.mono h fun _ _ ⟨r0, he, hR⟩ => ⟨r0, he, hr _ _ hR⟩

/-- foliant/foliantlaw42.lives -/
def S13 (w : World) (R : Bool → World → Prop) : Prop :=
  C28 1 2 w fun r1 vw2 =>
    C30 20000 30000 vw2 fun r3 vw4 =>
      C14 (r1.1, r1.2.1, r1.2.2.1, r1.2.2.2.1, r1.2.2.2.2.1, r1.2.2.2.2.2) (r3.1, r3.2.1, r3.2.2.1, r3.2.2.2.1, r3.2.2.2.2.1, r3.2.2.2.2.2) vw4 fun r5 r6 vw7 =>
        Nw vw7 (.cells #[.int .i64 0, .int .i64 0, .int .i64 0, .int .i64 0, .int .i64 0, .int .i64 0] 23) fun vw8 =>
        St vw8 (⟨vw7.heap.size, 0, none⟩ : Addr) (.int .i64 (r5.1)) fun vw9 =>
        St vw9 ((⟨vw7.heap.size, 0, none⟩ : Addr).add 1) (.int .i64 (r5.2.1)) fun vw10 =>
        St vw10 ((⟨vw7.heap.size, 0, none⟩ : Addr).add 2) (.int .i64 (r5.2.2.1)) fun vw11 =>
        St vw11 ((⟨vw7.heap.size, 0, none⟩ : Addr).add 3) (.int .i64 (r5.2.2.2.1)) fun vw12 =>
        St vw12 ((⟨vw7.heap.size, 0, none⟩ : Addr).add 4) (.int .i64 (r5.2.2.2.2.1)) fun vw13 =>
        St vw13 ((⟨vw7.heap.size, 0, none⟩ : Addr).add 5) (.int .i64 (r5.2.2.2.2.2)) fun vw14 =>
        C16 (0, 10000, (-10000), 0, 0, 0) (5, 7) vw14 fun r15 r16 vw17 =>
          Nw vw17 (.cells #[.int .i64 0, .int .i64 0] 25) fun vw18 =>
          St vw18 (⟨vw17.heap.size, 0, none⟩ : Addr) (.int .i64 (r15.1)) fun vw19 =>
          St vw19 ((⟨vw17.heap.size, 0, none⟩ : Addr).add 1) (.int .i64 (r15.2)) fun vw20 =>
          C30 30000 40000 vw20 fun r21 vw22 =>
            C18 (r21.1, r21.2.1, r21.2.2.1, r21.2.2.2.1, r21.2.2.2.2.1, r21.2.2.2.2.2) (10, 10) vw22 fun r23 r24 vw25 =>
              C30 (-10000) 10000 vw25 fun r26 vw27 =>
                C20 (r26.1, r26.2.1, r26.2.2.1, r26.2.2.2.1, r26.2.2.2.2.1, r26.2.2.2.2.2) (1, 2, 3, 4) vw27 fun r28 r29 vw30 =>
                  Nw vw30 (.cells #[.int .i64 0, .int .i64 0, .int .i64 0, .int .i64 0] 27) fun vw31 =>
                  St vw31 (⟨vw30.heap.size, 0, none⟩ : Addr) (.int .i64 (r28.1)) fun vw32 =>
                  St vw32 ((⟨vw30.heap.size, 0, none⟩ : Addr).add 1) (.int .i64 (r28.2.1)) fun vw33 =>
                  St vw33 ((⟨vw30.heap.size, 0, none⟩ : Addr).add 2) (.int .i64 (r28.2.2.1)) fun vw34 =>
                  St vw34 ((⟨vw30.heap.size, 0, none⟩ : Addr).add 3) (.int .i64 (r28.2.2.2)) fun vw35 =>
                  C24 vw35 fun r36 vw37 =>
                    C14 (1073741825, 0, 0, 0, 0, 0) (r36.1, r36.2.1, r36.2.2.1, r36.2.2.2.1, r36.2.2.2.2.1, r36.2.2.2.2.2) vw37 fun r38 r39 vw40 =>
                      Nw vw40 (.cells #[.int .i64 0, .int .i64 0, .int .i64 0, .int .i64 0, .int .i64 0, .int .i64 0] 23) fun vw41 =>
                      St vw41 (⟨vw40.heap.size, 0, none⟩ : Addr) (.int .i64 (r38.1)) fun vw42 =>
                      St vw42 ((⟨vw40.heap.size, 0, none⟩ : Addr).add 1) (.int .i64 (r38.2.1)) fun vw43 =>
                      St vw43 ((⟨vw40.heap.size, 0, none⟩ : Addr).add 2) (.int .i64 (r38.2.2.1)) fun vw44 =>
                      St vw44 ((⟨vw40.heap.size, 0, none⟩ : Addr).add 3) (.int .i64 (r38.2.2.2.1)) fun vw45 =>
                      St vw45 ((⟨vw40.heap.size, 0, none⟩ : Addr).add 4) (.int .i64 (r38.2.2.2.2.1)) fun vw46 =>
                      St vw46 ((⟨vw40.heap.size, 0, none⟩ : Addr).add 5) (.int .i64 (r38.2.2.2.2.2)) fun vw47 =>
                      C24 vw47 fun r48 vw49 =>
                        C16 (r48.1, r48.2.1, r48.2.2.1, r48.2.2.2.1, r48.2.2.2.2.1, r48.2.2.2.2.2) (1073741825, 0) vw49 fun r50 r51 vw52 =>
                          Nw vw52 (.cells #[.int .i64 0, .int .i64 0] 25) fun vw53 =>
                          St vw53 (⟨vw52.heap.size, 0, none⟩ : Addr) (.int .i64 (r50.1)) fun vw54 =>
                          St vw54 ((⟨vw52.heap.size, 0, none⟩ : Addr).add 1) (.int .i64 (r50.2)) fun vw55 =>
                          C28 1 0 vw55 fun r56 vw57 =>
                            C16 (r56.1, r56.2.1, r56.2.2.1, r56.2.2.2.1, r56.2.2.2.2.1, r56.2.2.2.2.2) (1073741824, 0) vw57 fun r58 r59 vw60 =>
                              Nw vw60 (.cells #[.int .i64 0, .int .i64 0] 25) fun vw61 =>
                              St vw61 (⟨vw60.heap.size, 0, none⟩ : Addr) (.int .i64 (r58.1)) fun vw62 =>
                              St vw62 ((⟨vw60.heap.size, 0, none⟩ : Addr).add 1) (.int .i64 (r58.2)) fun vw63 =>
                              C22 (0, 0, 0, (⟨#[]⟩ : ByteArray), (⟨none, 0, 0⟩ : Slc), (⟨none, 0, 0⟩ : Slc)) vw63 fun r64 r65 vw66 =>
                                Nw vw66 (.cells #[.int .i64 0, .int .i64 0, .int .i64 0, .int .i64 0, .int .i64 0, .int .i64 0] 23) fun vw67 =>
                                St vw67 (⟨vw66.heap.size, 0, none⟩ : Addr) (.int .i64 (r64.1)) fun vw68 =>
                                St vw68 ((⟨vw66.heap.size, 0, none⟩ : Addr).add 1) (.int .i64 (r64.2.1)) fun vw69 =>
                                St vw69 ((⟨vw66.heap.size, 0, none⟩ : Addr).add 2) (.int .i64 (r64.2.2.1)) fun vw70 =>
                                St vw70 ((⟨vw66.heap.size, 0, none⟩ : Addr).add 3) (.int .i64 (r64.2.2.2.1)) fun vw71 =>
                                St vw71 ((⟨vw66.heap.size, 0, none⟩ : Addr).add 4) (.int .i64 (r64.2.2.2.2.1)) fun vw72 =>
                                St vw72 ((⟨vw66.heap.size, 0, none⟩ : Addr).add 5) (.int .i64 (r64.2.2.2.2.2)) fun vw73 =>
                                C22 (6, 0, 0, (⟨#[]⟩ : ByteArray), (⟨none, 0, 0⟩ : Slc), (⟨none, 0, 0⟩ : Slc)) vw73 fun r74 r75 vw76 =>
                                  Nw vw76 (.cells #[.int .i64 0, .int .i64 0, .int .i64 0, .int .i64 0, .int .i64 0, .int .i64 0] 23) fun vw77 =>
                                  St vw77 (⟨vw76.heap.size, 0, none⟩ : Addr) (.int .i64 (r74.1)) fun vw78 =>
                                  St vw78 ((⟨vw76.heap.size, 0, none⟩ : Addr).add 1) (.int .i64 (r74.2.1)) fun vw79 =>
                                  St vw79 ((⟨vw76.heap.size, 0, none⟩ : Addr).add 2) (.int .i64 (r74.2.2.1)) fun vw80 =>
                                  St vw80 ((⟨vw76.heap.size, 0, none⟩ : Addr).add 3) (.int .i64 (r74.2.2.2.1)) fun vw81 =>
                                  St vw81 ((⟨vw76.heap.size, 0, none⟩ : Addr).add 4) (.int .i64 (r74.2.2.2.2.1)) fun vw82 =>
                                  St vw82 ((⟨vw76.heap.size, 0, none⟩ : Addr).add 5) (.int .i64 (r74.2.2.2.2.2)) fun vw83 =>
                                  C33 (15000, 0, 0, 0, 0, (-20000)) vw83 fun r84 vw85 =>
                                    Nw vw85 (.cells #[.int .i64 0, .int .i64 0, .int .i64 0, .string ((⟨#[]⟩ : ByteArray)), Slc.v ((⟨none, 0, 0⟩ : Slc)), Slc.v ((⟨none, 0, 0⟩ : Slc))] 31) fun vw86 =>
                                    St vw86 (⟨vw85.heap.size, 0, none⟩ : Addr) (.int .i64 (r84.1)) fun vw87 =>
                                    St vw87 ((⟨vw85.heap.size, 0, none⟩ : Addr).add 1) (.int .i64 (r84.2.1)) fun vw88 =>
                                    St vw88 ((⟨vw85.heap.size, 0, none⟩ : Addr).add 2) (.int .i64 (r84.2.2.1)) fun vw89 =>
                                    St vw89 ((⟨vw85.heap.size, 0, none⟩ : Addr).add 3) (.string r84.2.2.2.1) fun vw90 =>
                                    St vw90 ((⟨vw85.heap.size, 0, none⟩ : Addr).add 4) (Slc.v r84.2.2.2.2.1) fun vw91 =>
                                    St vw91 ((⟨vw85.heap.size, 0, none⟩ : Addr).add 5) (Slc.v r84.2.2.2.2.2) fun vw92 =>
                                    Ld vw92 (⟨vw85.heap.size, 0, none⟩ : Addr) (Value.int .i64) fun (x93 : Int) =>
                                    Ld vw92 ((⟨vw85.heap.size, 0, none⟩ : Addr).add 1) (Value.int .i64) fun (x94 : Int) =>
                                    Ld vw92 ((⟨vw85.heap.size, 0, none⟩ : Addr).add 2) (Value.int .i64) fun (x95 : Int) =>
                                    Ld vw92 ((⟨vw85.heap.size, 0, none⟩ : Addr).add 3) Value.string fun (x96 : ByteArray) =>
                                    Ld vw92 ((⟨vw85.heap.size, 0, none⟩ : Addr).add 4) Slc.v fun (x97 : Slc) =>
                                    Ld vw92 ((⟨vw85.heap.size, 0, none⟩ : Addr).add 5) Slc.v fun (x98 : Slc) =>
                                    C22 (x93, x94, x95, x96, x97, x98) vw92 fun r99 r100 vw101 =>
                                      Nw vw101 (.cells #[.int .i64 0, .int .i64 0, .int .i64 0, .int .i64 0, .int .i64 0, .int .i64 0] 23) fun vw102 =>
                                      St vw102 (⟨vw101.heap.size, 0, none⟩ : Addr) (.int .i64 (r99.1)) fun vw103 =>
                                      St vw103 ((⟨vw101.heap.size, 0, none⟩ : Addr).add 1) (.int .i64 (r99.2.1)) fun vw104 =>
                                      St vw104 ((⟨vw101.heap.size, 0, none⟩ : Addr).add 2) (.int .i64 (r99.2.2.1)) fun vw105 =>
                                      St vw105 ((⟨vw101.heap.size, 0, none⟩ : Addr).add 3) (.int .i64 (r99.2.2.2.1)) fun vw106 =>
                                      St vw106 ((⟨vw101.heap.size, 0, none⟩ : Addr).add 4) (.int .i64 (r99.2.2.2.2.1)) fun vw107 =>
                                      St vw107 ((⟨vw101.heap.size, 0, none⟩ : Addr).add 5) (.int .i64 (r99.2.2.2.2.2)) fun vw108 =>
                                      Ld vw108 (⟨vw7.heap.size, 0, none⟩ : Addr) (Value.int .i64) fun (x122 : Int) =>
                                      Ld vw108 ((⟨vw7.heap.size, 0, none⟩ : Addr).add 1) (Value.int .i64) fun (x123 : Int) =>
                                      Ld vw108 ((⟨vw7.heap.size, 0, none⟩ : Addr).add 2) (Value.int .i64) fun (x124 : Int) =>
                                      Ld vw108 ((⟨vw7.heap.size, 0, none⟩ : Addr).add 3) (Value.int .i64) fun (x125 : Int) =>
                                      Ld vw108 ((⟨vw7.heap.size, 0, none⟩ : Addr).add 4) (Value.int .i64) fun (x126 : Int) =>
                                      Ld vw108 ((⟨vw7.heap.size, 0, none⟩ : Addr).add 5) (Value.int .i64) fun (x127 : Int) =>
                                      Lt (!((x122 == 20000) && ((x123 == 0) && ((x124 == 0) && ((x125 == 30000) && ((x126 == 2) && ((x127 == 6) && true))))))) fun (x128 : Bool) =>
                                      Br x128 (R false vw108) (Br (r6 != 0) (R false vw108) (Ld vw108 (⟨vw17.heap.size, 0, none⟩ : Addr) (Value.int .i64) fun (x129 : Int) =>
                                          Ld vw108 ((⟨vw17.heap.size, 0, none⟩ : Addr).add 1) (Value.int .i64) fun (x130 : Int) =>
                                          Br (!((x129 == (-7)) && ((x130 == 5) && true))) (R false vw108) (Br (r16 != 0) (R false vw108) (Br (r23 != 50) (R false vw108) (Br (r24 != 0) (R false vw108) (Ld vw108 (⟨vw30.heap.size, 0, none⟩ : Addr) (Value.int .i64) fun (x131 : Int) =>
                                                  Ld vw108 ((⟨vw30.heap.size, 0, none⟩ : Addr).add 1) (Value.int .i64) fun (x132 : Int) =>
                                                  Ld vw108 ((⟨vw30.heap.size, 0, none⟩ : Addr).add 2) (Value.int .i64) fun (x133 : Int) =>
                                                  Ld vw108 ((⟨vw30.heap.size, 0, none⟩ : Addr).add 3) (Value.int .i64) fun (x134 : Int) =>
                                                  Br (!((x131 == (-3)) && ((x132 == 2) && ((x133 == (-1)) && ((x134 == 4) && true))))) (R false vw108) (Br (r29 != 0) (R false vw108) (Br (r39 != 2) (R false vw108) (Br (r51 != 2) (R false vw108) (Br (r59 != 2) (R false vw108) (Br (r65 != 10) (R false vw108) (Br (r75 != 3) (R false vw108) (Ld vw108 ((⟨vw85.heap.size, 0, none⟩ : Addr).add 5) Slc.v fun (x135 : Slc) =>
                                                                Br (((x135.len : Nat) : Int) == 6) (Ld vw108 ((⟨vw85.heap.size, 0, none⟩ : Addr).add 5) Slc.v fun (x136 : Slc) =>
                                                                  0 ≤ (0 : Int) ∧ (0 : Int) < (x136.len : Nat) ∧ Nn x136.p fun a137 =>
                                                                  Ld vw108 (a137.add (((0 : Int)).toNat * 6)) (Value.int .i64) fun (x138 : Int) =>
                                                                  Br (x138 == 3) (Ld vw108 ((⟨vw85.heap.size, 0, none⟩ : Addr).add 5) Slc.v fun (x139 : Slc) =>
                                                                    0 ≤ (0 : Int) ∧ (0 : Int) < (x139.len : Nat) ∧ Nn x139.p fun a140 =>
                                                                    Ld vw108 ((a140.add (((0 : Int)).toNat * 6)).add 1) (Value.int .i64) fun (x141 : Int) =>
                                                                    Br (x141 == 15000) (Ld vw108 ((⟨vw85.heap.size, 0, none⟩ : Addr).add 5) Slc.v fun (x142 : Slc) =>
                                                                      0 ≤ (5 : Int) ∧ (5 : Int) < (x142.len : Nat) ∧ Nn x142.p fun a143 =>
                                                                      Ld vw108 (a143.add (((5 : Int)).toNat * 6)) (Value.int .i64) fun (x144 : Int) =>
                                                                      Br (x144 == 2) (Ld vw108 ((⟨vw85.heap.size, 0, none⟩ : Addr).add 5) Slc.v fun (x145 : Slc) =>
                                                                        0 ≤ (5 : Int) ∧ (5 : Int) < (x145.len : Nat) ∧ Nn x145.p fun a146 =>
                                                                        Ld vw108 ((a146.add (((5 : Int)).toNat * 6)).add 1) (Value.int .i64) fun (x147 : Int) =>
                                                                        Br (x147 == (-2)) (Ld vw108 (⟨vw101.heap.size, 0, none⟩ : Addr) (Value.int .i64) fun (x148 : Int) =>
                                                                          Ld vw108 ((⟨vw101.heap.size, 0, none⟩ : Addr).add 1) (Value.int .i64) fun (x149 : Int) =>
                                                                          Ld vw108 ((⟨vw101.heap.size, 0, none⟩ : Addr).add 2) (Value.int .i64) fun (x150 : Int) =>
                                                                          Ld vw108 ((⟨vw101.heap.size, 0, none⟩ : Addr).add 3) (Value.int .i64) fun (x151 : Int) =>
                                                                          Ld vw108 ((⟨vw101.heap.size, 0, none⟩ : Addr).add 4) (Value.int .i64) fun (x152 : Int) =>
                                                                          Ld vw108 ((⟨vw101.heap.size, 0, none⟩ : Addr).add 5) (Value.int .i64) fun (x153 : Int) =>
                                                                          Lt (((x148 == 15000) && ((x149 == 0) && ((x150 == 0) && ((x151 == 0) && ((x152 == 0) && ((x153 == (-20000)) && true))))))) fun (x154 : Bool) =>
                                                                          Br x154 (Br (r100 == 0) (C24 vw108 fun r155 vw156 =>
                                                                                C26 (r155.1, r155.2.1, r155.2.2.1, r155.2.2.2.1, r155.2.2.2.2.1, r155.2.2.2.2.2) vw156 fun r157 vw158 =>
                                                                                  R (r157 == 0) vw158) (R false vw108)) (R false vw108)) (R false vw108)) (R false vw108)) (R false vw108)) (R false vw108)) (R false vw108))))))))))))))
def pl13 : Plan := (.seq (.reg .seq) (.seq (.reg .seq) (.seq (.reg .seq) (.seq (.reg .seq) (.seq (.reg .seq) (.seq (.reg .seq) (.seq (.reg .seq) (.seq (.reg .seq) (.seq (.reg .seq) (.seq (.reg .seq) (.seq (.reg .seq) (.seq (.reg .seq) (.seq (.seq (.reg .seq) (.cond (.seq (.reg .seq) .leaf) .leaf)) (.seq (.reg .seq) .leaf))))))))))))))
set_option maxRecDepth 100000 in
theorem T13 (w : World) (R : Bool → World → Prop) (h : S13 w R) : C13 w R := by
  have e : fnT Try.prog ⟨FF, MAY, (fun _ _ => False)⟩ pl13 Try.f13 [] w [(.one .bool)] (fun s w => R s w) = S13 w R := by kernel_rfl
  exact (fn_calls okF okM Try.func13 (by kernel_rfl) (by kernel_rfl) (e.mpr h)).mono fun _ _ ⟨s, he, hR⟩ => ⟨s, he, hR⟩

def S35L1 (w : World) (vw2 : World) (vw3 : World) (R : (Int × Int × Int × Int × Int × Int) → Bool → World → Prop) (I49 : Int → World → Prop) (s47 : Int) (vw48 : World) : Prop :=
  Br (decide (s47 < (((⟨some ⟨vw3.heap.size, 0, none⟩, 6, 6⟩ : Slc).len : Nat) : Int))) (0 ≤ s47 ∧ s47 < ((⟨some ⟨vw3.heap.size, 0, none⟩, 6, 6⟩ : Slc).len : Nat) ∧ Nn (⟨some ⟨vw3.heap.size, 0, none⟩, 6, 6⟩ : Slc).p fun a50 =>
    Ld vw48 (a50.add ((s47).toNat * 1)) (Value.int .i64) fun (x51 : Int) =>
    Br (decide (x51 < (-20))) (Ld vw48 (⟨w.heap.size, 0, none⟩ : Addr) (Value.int .i64) fun (x52 : Int) =>
      Ld vw48 ((⟨w.heap.size, 0, none⟩ : Addr).add 1) (Value.int .i64) fun (x53 : Int) =>
      Ld vw48 ((⟨w.heap.size, 0, none⟩ : Addr).add 2) (Value.int .i64) fun (x54 : Int) =>
      Ld vw48 ((⟨w.heap.size, 0, none⟩ : Addr).add 3) (Value.int .i64) fun (x55 : Int) =>
      Ld vw48 ((⟨w.heap.size, 0, none⟩ : Addr).add 4) (Value.int .i64) fun (x56 : Int) =>
      Ld vw48 ((⟨w.heap.size, 0, none⟩ : Addr).add 5) (Value.int .i64) fun (x57 : Int) =>
      St vw48 (⟨vw2.heap.size, 0, none⟩ : Addr) (.int .i64 x52) fun vw58 =>
      St vw58 ((⟨vw2.heap.size, 0, none⟩ : Addr).add 1) (.int .i64 x53) fun vw59 =>
      St vw59 ((⟨vw2.heap.size, 0, none⟩ : Addr).add 2) (.int .i64 x54) fun vw60 =>
      St vw60 ((⟨vw2.heap.size, 0, none⟩ : Addr).add 3) (.int .i64 x55) fun vw61 =>
      St vw61 ((⟨vw2.heap.size, 0, none⟩ : Addr).add 4) (.int .i64 x56) fun vw62 =>
      St vw62 ((⟨vw2.heap.size, 0, none⟩ : Addr).add 5) (.int .i64 x57) fun vw63 =>
      Ld vw63 (⟨vw2.heap.size, 0, none⟩ : Addr) (Value.int .i64) fun (x64 : Int) =>
      Ld vw63 ((⟨vw2.heap.size, 0, none⟩ : Addr).add 1) (Value.int .i64) fun (x65 : Int) =>
      Ld vw63 ((⟨vw2.heap.size, 0, none⟩ : Addr).add 2) (Value.int .i64) fun (x66 : Int) =>
      Ld vw63 ((⟨vw2.heap.size, 0, none⟩ : Addr).add 3) (Value.int .i64) fun (x67 : Int) =>
      Ld vw63 ((⟨vw2.heap.size, 0, none⟩ : Addr).add 4) (Value.int .i64) fun (x68 : Int) =>
      Ld vw63 ((⟨vw2.heap.size, 0, none⟩ : Addr).add 5) (Value.int .i64) fun (x69 : Int) =>
      R (x64, x65, x66, x67, x68, x69) false vw63) (Br (decide (x51 > 20)) (Ld vw48 (⟨w.heap.size, 0, none⟩ : Addr) (Value.int .i64) fun (x70 : Int) =>
        Ld vw48 ((⟨w.heap.size, 0, none⟩ : Addr).add 1) (Value.int .i64) fun (x71 : Int) =>
        Ld vw48 ((⟨w.heap.size, 0, none⟩ : Addr).add 2) (Value.int .i64) fun (x72 : Int) =>
        Ld vw48 ((⟨w.heap.size, 0, none⟩ : Addr).add 3) (Value.int .i64) fun (x73 : Int) =>
        Ld vw48 ((⟨w.heap.size, 0, none⟩ : Addr).add 4) (Value.int .i64) fun (x74 : Int) =>
        Ld vw48 ((⟨w.heap.size, 0, none⟩ : Addr).add 5) (Value.int .i64) fun (x75 : Int) =>
        St vw48 (⟨vw2.heap.size, 0, none⟩ : Addr) (.int .i64 x70) fun vw76 =>
        St vw76 ((⟨vw2.heap.size, 0, none⟩ : Addr).add 1) (.int .i64 x71) fun vw77 =>
        St vw77 ((⟨vw2.heap.size, 0, none⟩ : Addr).add 2) (.int .i64 x72) fun vw78 =>
        St vw78 ((⟨vw2.heap.size, 0, none⟩ : Addr).add 3) (.int .i64 x73) fun vw79 =>
        St vw79 ((⟨vw2.heap.size, 0, none⟩ : Addr).add 4) (.int .i64 x74) fun vw80 =>
        St vw80 ((⟨vw2.heap.size, 0, none⟩ : Addr).add 5) (.int .i64 x75) fun vw81 =>
        Ld vw81 (⟨vw2.heap.size, 0, none⟩ : Addr) (Value.int .i64) fun (x82 : Int) =>
        Ld vw81 ((⟨vw2.heap.size, 0, none⟩ : Addr).add 1) (Value.int .i64) fun (x83 : Int) =>
        Ld vw81 ((⟨vw2.heap.size, 0, none⟩ : Addr).add 2) (Value.int .i64) fun (x84 : Int) =>
        Ld vw81 ((⟨vw2.heap.size, 0, none⟩ : Addr).add 3) (Value.int .i64) fun (x85 : Int) =>
        Ld vw81 ((⟨vw2.heap.size, 0, none⟩ : Addr).add 4) (Value.int .i64) fun (x86 : Int) =>
        Ld vw81 ((⟨vw2.heap.size, 0, none⟩ : Addr).add 5) (Value.int .i64) fun (x87 : Int) =>
        R (x82, x83, x84, x85, x86, x87) false vw81) (I49 (IntKind.i64.wrap (s47 + 1)) vw48))) (Ld vw48 (⟨w.heap.size, 0, none⟩ : Addr) (Value.int .i64) fun (x88 : Int) =>
    Ld vw48 ((⟨w.heap.size, 0, none⟩ : Addr).add 1) (Value.int .i64) fun (x89 : Int) =>
    Ld vw48 ((⟨w.heap.size, 0, none⟩ : Addr).add 2) (Value.int .i64) fun (x90 : Int) =>
    Ld vw48 ((⟨w.heap.size, 0, none⟩ : Addr).add 3) (Value.int .i64) fun (x91 : Int) =>
    Ld vw48 ((⟨w.heap.size, 0, none⟩ : Addr).add 4) (Value.int .i64) fun (x92 : Int) =>
    Ld vw48 ((⟨w.heap.size, 0, none⟩ : Addr).add 5) (Value.int .i64) fun (x93 : Int) =>
    St vw48 (⟨vw2.heap.size, 0, none⟩ : Addr) (.int .i64 (IntKind.i64.wrap (10000 * x88))) fun vw94 =>
    St vw94 ((⟨vw2.heap.size, 0, none⟩ : Addr).add 1) (.int .i64 (IntKind.i64.wrap (10000 * x89))) fun vw95 =>
    St vw95 ((⟨vw2.heap.size, 0, none⟩ : Addr).add 2) (.int .i64 (IntKind.i64.wrap (10000 * x90))) fun vw96 =>
    St vw96 ((⟨vw2.heap.size, 0, none⟩ : Addr).add 3) (.int .i64 (IntKind.i64.wrap (10000 * x91))) fun vw97 =>
    St vw97 ((⟨vw2.heap.size, 0, none⟩ : Addr).add 4) (.int .i64 (IntKind.i64.wrap (10000 * x92))) fun vw98 =>
    St vw98 ((⟨vw2.heap.size, 0, none⟩ : Addr).add 5) (.int .i64 (IntKind.i64.wrap (10000 * x93))) fun vw99 =>
    Ld vw99 (⟨vw2.heap.size, 0, none⟩ : Addr) (Value.int .i64) fun (x100 : Int) =>
    Ld vw99 ((⟨vw2.heap.size, 0, none⟩ : Addr).add 1) (Value.int .i64) fun (x101 : Int) =>
    Ld vw99 ((⟨vw2.heap.size, 0, none⟩ : Addr).add 2) (Value.int .i64) fun (x102 : Int) =>
    Ld vw99 ((⟨vw2.heap.size, 0, none⟩ : Addr).add 3) (Value.int .i64) fun (x103 : Int) =>
    Ld vw99 ((⟨vw2.heap.size, 0, none⟩ : Addr).add 4) (Value.int .i64) fun (x104 : Int) =>
    Ld vw99 ((⟨vw2.heap.size, 0, none⟩ : Addr).add 5) (Value.int .i64) fun (x105 : Int) =>
    R (x100, x101, x102, x103, x104, x105) true vw99)
/-- foliant/foliantlaw42.whole -/
def S35 (m1 : Int × Int × Int × Int × Int × Int) (w : World) (R : (Int × Int × Int × Int × Int × Int) → Bool → World → Prop) : Prop :=
  Nw w (.cells #[.int .i64 (m1.1), .int .i64 (m1.2.1), .int .i64 (m1.2.2.1), .int .i64 (m1.2.2.2.1), .int .i64 (m1.2.2.2.2.1), .int .i64 (m1.2.2.2.2.2)] 23) fun vw2 =>
  Nw vw2 (.cells #[.int .i64 0, .int .i64 0, .int .i64 0, .int .i64 0, .int .i64 0, .int .i64 0] 23) fun vw3 =>
  Ld vw3 (⟨w.heap.size, 0, none⟩ : Addr) (Value.int .i64) fun (x40 : Int) =>
  Ld vw3 ((⟨w.heap.size, 0, none⟩ : Addr).add 1) (Value.int .i64) fun (x41 : Int) =>
  Ld vw3 ((⟨w.heap.size, 0, none⟩ : Addr).add 2) (Value.int .i64) fun (x42 : Int) =>
  Ld vw3 ((⟨w.heap.size, 0, none⟩ : Addr).add 3) (Value.int .i64) fun (x43 : Int) =>
  Ld vw3 ((⟨w.heap.size, 0, none⟩ : Addr).add 4) (Value.int .i64) fun (x44 : Int) =>
  Ld vw3 ((⟨w.heap.size, 0, none⟩ : Addr).add 5) (Value.int .i64) fun (x45 : Int) =>
  Nw vw3 (.cells #[.int .i64 x40, .int .i64 x41, .int .i64 x42, .int .i64 x43, .int .i64 x44, .int .i64 x45] 2) fun vw46 =>
  Lp (σ := Int) (S35L1 w vw2 vw3 R) 0 vw46
def pl35 : Plan := (.seq (.reg .seq) (.seq (.seq (.reg .seq) (.block (.loop [(20, (.one (.int .i64)))] [1, 2, 18, 19] (.seq (.reg .seq) (.seq (.cond .leaf .leaf) (.seq (.block (.seq (.reg .seq) (.seq (.reg .seq) (.cond (.seq (.reg .seq) .leaf) .leaf)))) (.reg .seq))))))) (.seq (.reg .seq) .leaf)))
set_option maxRecDepth 100000 in
theorem T35 (m1 : Int × Int × Int × Int × Int × Int) (w : World) (R : (Int × Int × Int × Int × Int × Int) → Bool → World → Prop) (h : S35 m1 w R) : C35 (m1.1, m1.2.1, m1.2.2.1, m1.2.2.2.1, m1.2.2.2.2.1, m1.2.2.2.2.2) w R := by
  have e : fnT Try.prog ⟨FF, MAY, (fun _ _ => False)⟩ pl35 Try.f35 [.agg #[.int .i64 (m1.1), .int .i64 (m1.2.1), .int .i64 (m1.2.2.1), .int .i64 (m1.2.2.2.1), .int .i64 (m1.2.2.2.2.1), .int .i64 (m1.2.2.2.2.2)]] w [(.agg [(.int .i64), (.int .i64), (.int .i64), (.int .i64), (.int .i64), (.int .i64)]), (.one .bool)] (fun s w => R s.1 s.2 w) = S35 m1 w R := by kernel_rfl
  exact (fn_calls okF okM Try.func35 (by kernel_rfl) (by kernel_rfl) (e.mpr h)).mono fun _ _ ⟨s, he, hR⟩ => ⟨s.1, s.2, he, hR⟩

/-- foliant/foliantlaw42.near -/
def S36 (n1 : Int) (sum2 : Int) (w : World) (R : Bool → World → Prop) : Prop :=
  Lt (decide ((IntKind.i64.wrap ((IntKind.i64.wrap (20000 * n1)) - (IntKind.i64.wrap (2 * sum2)))) ≤ 10000)) fun (x3 : Bool) =>
  Br x3 (Lt (decide ((IntKind.i64.wrap ((IntKind.i64.wrap (20000 * n1)) - (IntKind.i64.wrap (2 * sum2)))) > (-10000))) fun (x4 : Bool) =>
    R x4 w) (R false w)
def pl36 : Plan := (.seq (.reg .seq) (.seq (.reg .seq) .leaf))
set_option maxRecDepth 100000 in
theorem T36 (n1 : Int) (sum2 : Int) (w : World) (R : Bool → World → Prop) (h : S36 n1 sum2 w R) : C36 n1 sum2 w R := by
  have e : fnT Try.prog ⟨FF, MAY, (fun _ _ => False)⟩ pl36 Try.f36 [.int .i64 n1, .int .i64 sum2] w [(.one .bool)] (fun s w => R s w) = S36 n1 sum2 w R := by kernel_rfl
  exact (fn_calls okF okM Try.func36 (by kernel_rfl) (by kernel_rfl) (e.mpr h)).mono fun _ _ ⟨s, he, hR⟩ => ⟨s, he, hR⟩

def S4J1 (w : World) (vw3 : World) (s66 : Addr × Int) (s109 : Addr × Int) (r120 : Int) (vw121 : World) (R : Bool → World → Prop) (s154 : Addr × Int) (vw155 : World) : Prop :=
  Ld vw155 s66.1 (Value.int .i64) fun (x195 : Int) =>
  Ld vw155 (s66.1.add 1) (Value.int .i64) fun (x196 : Int) =>
  Ld vw155 (s66.1.add 2) (Value.int .i64) fun (x197 : Int) =>
  Ld vw155 (s66.1.add 3) (Value.int .i64) fun (x198 : Int) =>
  Ld vw155 (s66.1.add 4) (Value.int .i64) fun (x199 : Int) =>
  Ld vw155 (s66.1.add 5) (Value.int .i64) fun (x200 : Int) =>
  Ld vw155 (⟨w.heap.size, 0, none⟩ : Addr) (Value.int .i64) fun (x201 : Int) =>
  Ld vw155 ((⟨w.heap.size, 0, none⟩ : Addr).add 1) (Value.int .i64) fun (x202 : Int) =>
  Ld vw155 ((⟨w.heap.size, 0, none⟩ : Addr).add 2) (Value.int .i64) fun (x203 : Int) =>
  Ld vw155 ((⟨w.heap.size, 0, none⟩ : Addr).add 3) (Value.int .i64) fun (x204 : Int) =>
  Ld vw155 ((⟨w.heap.size, 0, none⟩ : Addr).add 4) (Value.int .i64) fun (x205 : Int) =>
  Ld vw155 ((⟨w.heap.size, 0, none⟩ : Addr).add 5) (Value.int .i64) fun (x206 : Int) =>
  Lt (!((x195 == x201) && ((x196 == x202) && ((x197 == x203) && ((x198 == x204) && ((x199 == x205) && ((x200 == x206) && true))))))) fun (x207 : Bool) =>
  Br x207 (R false vw155) (Br (s66.2 != 0) (R false vw155) (Ld vw155 s109.1 (Value.int .i64) fun (x208 : Int) =>
      Ld vw155 (s109.1.add 1) (Value.int .i64) fun (x209 : Int) =>
      Ld vw155 (s109.1.add 2) (Value.int .i64) fun (x210 : Int) =>
      Ld vw155 (s109.1.add 3) (Value.int .i64) fun (x211 : Int) =>
      Ld vw155 (s109.1.add 4) (Value.int .i64) fun (x212 : Int) =>
      Ld vw155 (s109.1.add 5) (Value.int .i64) fun (x213 : Int) =>
      Ld vw155 (⟨w.heap.size, 0, none⟩ : Addr) (Value.int .i64) fun (x214 : Int) =>
      Ld vw155 ((⟨w.heap.size, 0, none⟩ : Addr).add 1) (Value.int .i64) fun (x215 : Int) =>
      Ld vw155 ((⟨w.heap.size, 0, none⟩ : Addr).add 2) (Value.int .i64) fun (x216 : Int) =>
      Ld vw155 ((⟨w.heap.size, 0, none⟩ : Addr).add 3) (Value.int .i64) fun (x217 : Int) =>
      Ld vw155 ((⟨w.heap.size, 0, none⟩ : Addr).add 4) (Value.int .i64) fun (x218 : Int) =>
      Ld vw155 ((⟨w.heap.size, 0, none⟩ : Addr).add 5) (Value.int .i64) fun (x219 : Int) =>
      Lt (!((x208 == x214) && ((x209 == x215) && ((x210 == x216) && ((x211 == x217) && ((x212 == x218) && ((x213 == x219) && true))))))) fun (x220 : Bool) =>
      Br x220 (R false vw155) (Br (s109.2 != 0) (R false vw155) (Ld vw155 (⟨vw121.heap.size, 0, none⟩ : Addr) (Value.int .i64) fun (x221 : Int) =>
          Ld vw155 ((⟨vw121.heap.size, 0, none⟩ : Addr).add 1) (Value.int .i64) fun (x222 : Int) =>
          Ld vw155 ((⟨vw121.heap.size, 0, none⟩ : Addr).add 2) (Value.int .i64) fun (x223 : Int) =>
          Ld vw155 ((⟨vw121.heap.size, 0, none⟩ : Addr).add 3) (Value.int .i64) fun (x224 : Int) =>
          Ld vw155 ((⟨vw121.heap.size, 0, none⟩ : Addr).add 4) (Value.int .i64) fun (x225 : Int) =>
          Ld vw155 ((⟨vw121.heap.size, 0, none⟩ : Addr).add 5) (Value.int .i64) fun (x226 : Int) =>
          Ld vw155 (⟨w.heap.size, 0, none⟩ : Addr) (Value.int .i64) fun (x227 : Int) =>
          Ld vw155 ((⟨w.heap.size, 0, none⟩ : Addr).add 1) (Value.int .i64) fun (x228 : Int) =>
          Ld vw155 ((⟨w.heap.size, 0, none⟩ : Addr).add 2) (Value.int .i64) fun (x229 : Int) =>
          Ld vw155 ((⟨w.heap.size, 0, none⟩ : Addr).add 3) (Value.int .i64) fun (x230 : Int) =>
          Ld vw155 ((⟨w.heap.size, 0, none⟩ : Addr).add 4) (Value.int .i64) fun (x231 : Int) =>
          Ld vw155 ((⟨w.heap.size, 0, none⟩ : Addr).add 5) (Value.int .i64) fun (x232 : Int) =>
          Lt (!((x221 == x227) && ((x222 == x228) && ((x223 == x229) && ((x224 == x230) && ((x225 == x231) && ((x226 == x232) && true))))))) fun (x233 : Bool) =>
          Br x233 (R false vw155) (Br (r120 != 0) (R false vw155) (Ld vw155 (⟨vw3.heap.size, 0, none⟩ : Addr) (Value.int .i64) fun (x238 : Int) =>
              Br (decide (x238 < (-1073741824))) (R (s154.2 == 2) vw155) (Ld vw155 (⟨vw3.heap.size, 0, none⟩ : Addr) (Value.int .i64) fun (x239 : Int) =>
                Br (decide (x239 > 1073741824)) (R (s154.2 == 2) vw155) (Ld vw155 ((⟨vw3.heap.size, 0, none⟩ : Addr).add 1) (Value.int .i64) fun (x240 : Int) =>
                  Br (decide (x240 < (-1073741824))) (R (s154.2 == 2) vw155) (Ld vw155 ((⟨vw3.heap.size, 0, none⟩ : Addr).add 1) (Value.int .i64) fun (x241 : Int) =>
                    Br (decide (x241 > 1073741824)) (R (s154.2 == 2) vw155) (Ld vw155 s154.1 (Value.int .i64) fun (x242 : Int) =>
                      Ld vw155 (s154.1.add 1) (Value.int .i64) fun (x243 : Int) =>
                      Ld vw155 (⟨vw3.heap.size, 0, none⟩ : Addr) (Value.int .i64) fun (x244 : Int) =>
                      Ld vw155 ((⟨vw3.heap.size, 0, none⟩ : Addr).add 1) (Value.int .i64) fun (x245 : Int) =>
                      Br ((x242 == x244) && ((x243 == x245) && true)) (R (s154.2 == 0) vw155) (R false vw155)))))))))))
def S4J2 (w : World) (vw3 : World) (s66 : Addr × Int) (R : Bool → World → Prop) (s109 : Addr × Int) (vw110 : World) : Prop :=
  Ld vw110 (⟨w.heap.size, 0, none⟩ : Addr) (Value.int .i64) fun (x111 : Int) =>
  Ld vw110 ((⟨w.heap.size, 0, none⟩ : Addr).add 1) (Value.int .i64) fun (x112 : Int) =>
  Ld vw110 ((⟨w.heap.size, 0, none⟩ : Addr).add 2) (Value.int .i64) fun (x113 : Int) =>
  Ld vw110 ((⟨w.heap.size, 0, none⟩ : Addr).add 3) (Value.int .i64) fun (x114 : Int) =>
  Ld vw110 ((⟨w.heap.size, 0, none⟩ : Addr).add 4) (Value.int .i64) fun (x115 : Int) =>
  Ld vw110 ((⟨w.heap.size, 0, none⟩ : Addr).add 5) (Value.int .i64) fun (x116 : Int) =>
  C33 (x111, x112, x113, x114, x115, x116) vw110 fun r117 vw118 =>
    C22 (r117.1, r117.2.1, r117.2.2.1, r117.2.2.2.1, r117.2.2.2.2.1, r117.2.2.2.2.2) vw118 fun r119 r120 vw121 =>
      Nw vw121 (.cells #[.int .i64 0, .int .i64 0, .int .i64 0, .int .i64 0, .int .i64 0, .int .i64 0] 23) fun vw122 =>
      St vw122 (⟨vw121.heap.size, 0, none⟩ : Addr) (.int .i64 (r119.1)) fun vw123 =>
      St vw123 ((⟨vw121.heap.size, 0, none⟩ : Addr).add 1) (.int .i64 (r119.2.1)) fun vw124 =>
      St vw124 ((⟨vw121.heap.size, 0, none⟩ : Addr).add 2) (.int .i64 (r119.2.2.1)) fun vw125 =>
      St vw125 ((⟨vw121.heap.size, 0, none⟩ : Addr).add 3) (.int .i64 (r119.2.2.2.1)) fun vw126 =>
      St vw126 ((⟨vw121.heap.size, 0, none⟩ : Addr).add 4) (.int .i64 (r119.2.2.2.2.1)) fun vw127 =>
      St vw127 ((⟨vw121.heap.size, 0, none⟩ : Addr).add 5) (.int .i64 (r119.2.2.2.2.2)) fun vw128 =>
      Join (S4J1 w vw3 s66 s109 r120 vw121 R) fun (vJ246 : (Addr × Int) → World → Prop) =>
        ∃ vS247 : World → Prop, vS247 vw128.drew ∧ LdS vS247 (⟨vw3.heap.size, 0, none⟩ : Addr) (Value.int .i64) fun (x248 : Int) =>
        LdS vS247 ((⟨vw3.heap.size, 0, none⟩ : Addr).add 1) (Value.int .i64) fun (x249 : Int) =>
        (C24 vw128.drew fun r250 vw251 =>
            vS247 vw251 ∧ (C16 (r250.1, r250.2.1, r250.2.2.1, r250.2.2.2.1, r250.2.2.2.2.1, r250.2.2.2.2.2) (x248, x249) vw251 fun r252 r253 vw254 =>
                Nw vw254 (.cells #[.int .i64 0, .int .i64 0] 25) fun vw255 =>
                St vw255 (⟨vw254.heap.size, 0, none⟩ : Addr) (.int .i64 (r252.1)) fun vw256 =>
                St vw256 ((⟨vw254.heap.size, 0, none⟩ : Addr).add 1) (.int .i64 (r252.2)) fun vw257 =>
                vJ246 ((⟨vw254.heap.size, 0, none⟩ : Addr), r253) vw257) ∧
            (Nw vw251 (.cells #[.int .i64 0, .int .i64 0] 25) fun vw258 =>
              vS247 vw258 ∧ C16 (r250.1, r250.2.1, r250.2.2.1, r250.2.2.2.1, r250.2.2.2.2.1, r250.2.2.2.2.2) (x248, x249) vw258 fun r259 r260 vw261 =>
                St vw261 (⟨vw251.heap.size, 0, none⟩ : Addr) (.int .i64 (r259.1)) fun vw262 =>
                St vw262 ((⟨vw251.heap.size, 0, none⟩ : Addr).add 1) (.int .i64 (r259.2)) fun vw263 =>
                vJ246 ((⟨vw251.heap.size, 0, none⟩ : Addr), r260) vw263)) ∧
        (Nw vw128.drew (.cells #[.int .i64 0, .int .i64 0] 25) fun vw264 =>
          vS247 vw264 ∧ C24 vw264 fun r265 vw266 =>
            vS247 vw266 ∧ C16 (r265.1, r265.2.1, r265.2.2.1, r265.2.2.2.1, r265.2.2.2.2.1, r265.2.2.2.2.2) (x248, x249) vw266 fun r267 r268 vw269 =>
              St vw269 (⟨vw128.drew.heap.size, 0, none⟩ : Addr) (.int .i64 (r267.1)) fun vw270 =>
              St vw270 ((⟨vw128.drew.heap.size, 0, none⟩ : Addr).add 1) (.int .i64 (r267.2)) fun vw271 =>
              vJ246 ((⟨vw128.drew.heap.size, 0, none⟩ : Addr), r268) vw271)
def S4J3 (w : World) (vw3 : World) (R : Bool → World → Prop) (s66 : Addr × Int) (vw67 : World) : Prop :=
  Join (S4J2 w vw3 s66 R) fun (vJ272 : (Addr × Int) → World → Prop) =>
    ∃ vS273 : World → Prop, vS273 vw67.drew ∧ LdS vS273 (⟨w.heap.size, 0, none⟩ : Addr) (Value.int .i64) fun (x274 : Int) =>
    LdS vS273 ((⟨w.heap.size, 0, none⟩ : Addr).add 1) (Value.int .i64) fun (x275 : Int) =>
    LdS vS273 ((⟨w.heap.size, 0, none⟩ : Addr).add 2) (Value.int .i64) fun (x276 : Int) =>
    LdS vS273 ((⟨w.heap.size, 0, none⟩ : Addr).add 3) (Value.int .i64) fun (x277 : Int) =>
    LdS vS273 ((⟨w.heap.size, 0, none⟩ : Addr).add 4) (Value.int .i64) fun (x278 : Int) =>
    LdS vS273 ((⟨w.heap.size, 0, none⟩ : Addr).add 5) (Value.int .i64) fun (x279 : Int) =>
    (C24 vw67.drew fun r280 vw281 =>
        vS273 vw281 ∧ (C14 (r280.1, r280.2.1, r280.2.2.1, r280.2.2.2.1, r280.2.2.2.2.1, r280.2.2.2.2.2) (x274, x275, x276, x277, x278, x279) vw281 fun r282 r283 vw284 =>
            Nw vw284 (.cells #[.int .i64 0, .int .i64 0, .int .i64 0, .int .i64 0, .int .i64 0, .int .i64 0] 23) fun vw285 =>
            St vw285 (⟨vw284.heap.size, 0, none⟩ : Addr) (.int .i64 (r282.1)) fun vw286 =>
            St vw286 ((⟨vw284.heap.size, 0, none⟩ : Addr).add 1) (.int .i64 (r282.2.1)) fun vw287 =>
            St vw287 ((⟨vw284.heap.size, 0, none⟩ : Addr).add 2) (.int .i64 (r282.2.2.1)) fun vw288 =>
            St vw288 ((⟨vw284.heap.size, 0, none⟩ : Addr).add 3) (.int .i64 (r282.2.2.2.1)) fun vw289 =>
            St vw289 ((⟨vw284.heap.size, 0, none⟩ : Addr).add 4) (.int .i64 (r282.2.2.2.2.1)) fun vw290 =>
            St vw290 ((⟨vw284.heap.size, 0, none⟩ : Addr).add 5) (.int .i64 (r282.2.2.2.2.2)) fun vw291 =>
            vJ272 ((⟨vw284.heap.size, 0, none⟩ : Addr), r283) vw291) ∧
        (Nw vw281 (.cells #[.int .i64 0, .int .i64 0, .int .i64 0, .int .i64 0, .int .i64 0, .int .i64 0] 23) fun vw292 =>
          vS273 vw292 ∧ C14 (r280.1, r280.2.1, r280.2.2.1, r280.2.2.2.1, r280.2.2.2.2.1, r280.2.2.2.2.2) (x274, x275, x276, x277, x278, x279) vw292 fun r293 r294 vw295 =>
            St vw295 (⟨vw281.heap.size, 0, none⟩ : Addr) (.int .i64 (r293.1)) fun vw296 =>
            St vw296 ((⟨vw281.heap.size, 0, none⟩ : Addr).add 1) (.int .i64 (r293.2.1)) fun vw297 =>
            St vw297 ((⟨vw281.heap.size, 0, none⟩ : Addr).add 2) (.int .i64 (r293.2.2.1)) fun vw298 =>
            St vw298 ((⟨vw281.heap.size, 0, none⟩ : Addr).add 3) (.int .i64 (r293.2.2.2.1)) fun vw299 =>
            St vw299 ((⟨vw281.heap.size, 0, none⟩ : Addr).add 4) (.int .i64 (r293.2.2.2.2.1)) fun vw300 =>
            St vw300 ((⟨vw281.heap.size, 0, none⟩ : Addr).add 5) (.int .i64 (r293.2.2.2.2.2)) fun vw301 =>
            vJ272 ((⟨vw281.heap.size, 0, none⟩ : Addr), r294) vw301)) ∧
    (Nw vw67.drew (.cells #[.int .i64 0, .int .i64 0, .int .i64 0, .int .i64 0, .int .i64 0, .int .i64 0] 23) fun vw302 =>
      vS273 vw302 ∧ C24 vw302 fun r303 vw304 =>
        vS273 vw304 ∧ C14 (r303.1, r303.2.1, r303.2.2.1, r303.2.2.2.1, r303.2.2.2.2.1, r303.2.2.2.2.2) (x274, x275, x276, x277, x278, x279) vw304 fun r305 r306 vw307 =>
          St vw307 (⟨vw67.drew.heap.size, 0, none⟩ : Addr) (.int .i64 (r305.1)) fun vw308 =>
          St vw308 ((⟨vw67.drew.heap.size, 0, none⟩ : Addr).add 1) (.int .i64 (r305.2.1)) fun vw309 =>
          St vw309 ((⟨vw67.drew.heap.size, 0, none⟩ : Addr).add 2) (.int .i64 (r305.2.2.1)) fun vw310 =>
          St vw310 ((⟨vw67.drew.heap.size, 0, none⟩ : Addr).add 3) (.int .i64 (r305.2.2.2.1)) fun vw311 =>
          St vw311 ((⟨vw67.drew.heap.size, 0, none⟩ : Addr).add 4) (.int .i64 (r305.2.2.2.2.1)) fun vw312 =>
          St vw312 ((⟨vw67.drew.heap.size, 0, none⟩ : Addr).add 5) (.int .i64 (r305.2.2.2.2.2)) fun vw313 =>
          vJ272 ((⟨vw67.drew.heap.size, 0, none⟩ : Addr), r306) vw313)
/-- foliant/foliantlaw42.MatrixOnes -/
def S4 (m1 : Int × Int × Int × Int × Int × Int) (p2 : Int × Int) (w : World) (R : Bool → World → Prop) : Prop :=
  Nw w (.cells #[.int .i64 (m1.1), .int .i64 (m1.2.1), .int .i64 (m1.2.2.1), .int .i64 (m1.2.2.2.1), .int .i64 (m1.2.2.2.2.1), .int .i64 (m1.2.2.2.2.2)] 23) fun vw3 =>
  Nw vw3 (.cells #[.int .i64 (p2.1), .int .i64 (p2.2)] 25) fun vw4 =>
  C13 vw4 fun r7 vw8 =>
    Br (!r7) (R false vw8) (Ld vw8 (⟨w.heap.size, 0, none⟩ : Addr) (Value.int .i64) fun (x17 : Int) =>
      Ld vw8 ((⟨w.heap.size, 0, none⟩ : Addr).add 1) (Value.int .i64) fun (x18 : Int) =>
      Ld vw8 ((⟨w.heap.size, 0, none⟩ : Addr).add 2) (Value.int .i64) fun (x19 : Int) =>
      Ld vw8 ((⟨w.heap.size, 0, none⟩ : Addr).add 3) (Value.int .i64) fun (x20 : Int) =>
      Ld vw8 ((⟨w.heap.size, 0, none⟩ : Addr).add 4) (Value.int .i64) fun (x21 : Int) =>
      Ld vw8 ((⟨w.heap.size, 0, none⟩ : Addr).add 5) (Value.int .i64) fun (x22 : Int) =>
      C26 (x17, x18, x19, x20, x21, x22) vw8 fun r23 vw24 =>
        Br (r23 != 0) (R true vw24) (Join (S4J3 w vw3 R) fun (vJ314 : (Addr × Int) → World → Prop) =>
            ∃ vS315 : World → Prop, vS315 vw24.drew ∧ LdS vS315 (⟨w.heap.size, 0, none⟩ : Addr) (Value.int .i64) fun (x316 : Int) =>
            LdS vS315 ((⟨w.heap.size, 0, none⟩ : Addr).add 1) (Value.int .i64) fun (x317 : Int) =>
            LdS vS315 ((⟨w.heap.size, 0, none⟩ : Addr).add 2) (Value.int .i64) fun (x318 : Int) =>
            LdS vS315 ((⟨w.heap.size, 0, none⟩ : Addr).add 3) (Value.int .i64) fun (x319 : Int) =>
            LdS vS315 ((⟨w.heap.size, 0, none⟩ : Addr).add 4) (Value.int .i64) fun (x320 : Int) =>
            LdS vS315 ((⟨w.heap.size, 0, none⟩ : Addr).add 5) (Value.int .i64) fun (x321 : Int) =>
            (C24 vw24.drew fun r322 vw323 =>
                vS315 vw323 ∧ (C14 (x316, x317, x318, x319, x320, x321) (r322.1, r322.2.1, r322.2.2.1, r322.2.2.2.1, r322.2.2.2.2.1, r322.2.2.2.2.2) vw323 fun r324 r325 vw326 =>
                    Nw vw326 (.cells #[.int .i64 0, .int .i64 0, .int .i64 0, .int .i64 0, .int .i64 0, .int .i64 0] 23) fun vw327 =>
                    St vw327 (⟨vw326.heap.size, 0, none⟩ : Addr) (.int .i64 (r324.1)) fun vw328 =>
                    St vw328 ((⟨vw326.heap.size, 0, none⟩ : Addr).add 1) (.int .i64 (r324.2.1)) fun vw329 =>
                    St vw329 ((⟨vw326.heap.size, 0, none⟩ : Addr).add 2) (.int .i64 (r324.2.2.1)) fun vw330 =>
                    St vw330 ((⟨vw326.heap.size, 0, none⟩ : Addr).add 3) (.int .i64 (r324.2.2.2.1)) fun vw331 =>
                    St vw331 ((⟨vw326.heap.size, 0, none⟩ : Addr).add 4) (.int .i64 (r324.2.2.2.2.1)) fun vw332 =>
                    St vw332 ((⟨vw326.heap.size, 0, none⟩ : Addr).add 5) (.int .i64 (r324.2.2.2.2.2)) fun vw333 =>
                    vJ314 ((⟨vw326.heap.size, 0, none⟩ : Addr), r325) vw333) ∧
                (Nw vw323 (.cells #[.int .i64 0, .int .i64 0, .int .i64 0, .int .i64 0, .int .i64 0, .int .i64 0] 23) fun vw334 =>
                  vS315 vw334 ∧ C14 (x316, x317, x318, x319, x320, x321) (r322.1, r322.2.1, r322.2.2.1, r322.2.2.2.1, r322.2.2.2.2.1, r322.2.2.2.2.2) vw334 fun r335 r336 vw337 =>
                    St vw337 (⟨vw323.heap.size, 0, none⟩ : Addr) (.int .i64 (r335.1)) fun vw338 =>
                    St vw338 ((⟨vw323.heap.size, 0, none⟩ : Addr).add 1) (.int .i64 (r335.2.1)) fun vw339 =>
                    St vw339 ((⟨vw323.heap.size, 0, none⟩ : Addr).add 2) (.int .i64 (r335.2.2.1)) fun vw340 =>
                    St vw340 ((⟨vw323.heap.size, 0, none⟩ : Addr).add 3) (.int .i64 (r335.2.2.2.1)) fun vw341 =>
                    St vw341 ((⟨vw323.heap.size, 0, none⟩ : Addr).add 4) (.int .i64 (r335.2.2.2.2.1)) fun vw342 =>
                    St vw342 ((⟨vw323.heap.size, 0, none⟩ : Addr).add 5) (.int .i64 (r335.2.2.2.2.2)) fun vw343 =>
                    vJ314 ((⟨vw323.heap.size, 0, none⟩ : Addr), r336) vw343)) ∧
            (Nw vw24.drew (.cells #[.int .i64 0, .int .i64 0, .int .i64 0, .int .i64 0, .int .i64 0, .int .i64 0] 23) fun vw344 =>
              vS315 vw344 ∧ C24 vw344 fun r345 vw346 =>
                vS315 vw346 ∧ C14 (x316, x317, x318, x319, x320, x321) (r345.1, r345.2.1, r345.2.2.1, r345.2.2.2.1, r345.2.2.2.2.1, r345.2.2.2.2.2) vw346 fun r347 r348 vw349 =>
                  St vw349 (⟨vw24.drew.heap.size, 0, none⟩ : Addr) (.int .i64 (r347.1)) fun vw350 =>
                  St vw350 ((⟨vw24.drew.heap.size, 0, none⟩ : Addr).add 1) (.int .i64 (r347.2.1)) fun vw351 =>
                  St vw351 ((⟨vw24.drew.heap.size, 0, none⟩ : Addr).add 2) (.int .i64 (r347.2.2.1)) fun vw352 =>
                  St vw352 ((⟨vw24.drew.heap.size, 0, none⟩ : Addr).add 3) (.int .i64 (r347.2.2.2.1)) fun vw353 =>
                  St vw353 ((⟨vw24.drew.heap.size, 0, none⟩ : Addr).add 4) (.int .i64 (r347.2.2.2.2.1)) fun vw354 =>
                  St vw354 ((⟨vw24.drew.heap.size, 0, none⟩ : Addr).add 5) (.int .i64 (r347.2.2.2.2.2)) fun vw355 =>
                  vJ314 ((⟨vw24.drew.heap.size, 0, none⟩ : Addr), r348) vw355)))
def pl4 : Plan := (.seq (.reg .seq) (.seq (.seq (.reg .seq) (.cond (.seq (.reg .seq) .leaf) .leaf)) (.seq (.seq (.reg .seq) (.cond (.seq (.reg .seq) .leaf) .leaf)) (.join [(5, (.one .addr)), (6, (.one (.int .i64)))] [2, 3] (.reg (.held [2] (.take 0 (.effs 1 none (.effs 2 (some [6]) (.take 3 (.take 4 (.take 5 (.eff 6 (some [7]) (.eff 7 (some []) (.take 8 .done)))))) (.eff 6 none (.eff 2 (some [7]) (.take 3 (.take 4 (.take 5 (.eff 7 (some []) (.take 8 .done)))))))) (.eff 6 none (.eff 1 none (.eff 2 (some [7]) (.take 3 (.take 4 (.take 5 (.eff 7 (some []) (.take 8 .done)))))))))))) (.join [(7, (.one .addr)), (8, (.one (.int .i64)))] [2, 3, 5, 6] (.reg (.held [2] (.take 1 (.effs 0 none (.effs 2 (some [6]) (.take 3 (.take 4 (.take 5 (.eff 6 (some [7]) (.eff 7 (some []) (.take 8 .done)))))) (.eff 6 none (.eff 2 (some [7]) (.take 3 (.take 4 (.take 5 (.eff 7 (some []) (.take 8 .done)))))))) (.eff 6 none (.eff 0 none (.eff 2 (some [7]) (.take 3 (.take 4 (.take 5 (.eff 7 (some []) (.take 8 .done)))))))))))) (.seq (.reg .seq) (.join [(11, (.one .addr)), (12, (.one (.int .i64)))] [2, 3, 5, 6, 7, 8, 9, 10] (.reg (.held [2] (.take 1 (.effs 0 none (.effs 2 (some [6]) (.take 3 (.take 4 (.take 5 (.eff 6 (some [7]) (.eff 7 (some []) (.take 8 .done)))))) (.eff 6 none (.eff 2 (some [7]) (.take 3 (.take 4 (.take 5 (.eff 7 (some []) (.take 8 .done)))))))) (.eff 6 none (.eff 0 none (.eff 2 (some [7]) (.take 3 (.take 4 (.take 5 (.eff 7 (some []) (.take 8 .done)))))))))))) (.seq (.seq (.reg .seq) (.cond (.seq (.reg .seq) .leaf) .leaf)) (.seq (.seq (.reg .seq) (.cond (.seq (.reg .seq) .leaf) .leaf)) (.seq (.reg .seq) .leaf))))))))))
set_option maxRecDepth 100000 in
theorem T4 (m1 : Int × Int × Int × Int × Int × Int) (p2 : Int × Int) (w : World) (R : Bool → World → Prop) (h : S4 m1 p2 w R) : C4 (m1.1, m1.2.1, m1.2.2.1, m1.2.2.2.1, m1.2.2.2.2.1, m1.2.2.2.2.2) (p2.1, p2.2) w R := by
  have e : fnT Try.prog ⟨FF, MAY, (fun _ _ => False)⟩ pl4 Try.f4 [.agg #[.int .i64 (m1.1), .int .i64 (m1.2.1), .int .i64 (m1.2.2.1), .int .i64 (m1.2.2.2.1), .int .i64 (m1.2.2.2.2.1), .int .i64 (m1.2.2.2.2.2)], .agg #[.int .i64 (p2.1), .int .i64 (p2.2)]] w [(.one .bool)] (fun s w => R s w) = S4 m1 p2 w R := by kernel_rfl
  exact (fn_calls okF okM Try.func4 (by kernel_rfl) (by kernel_rfl) (e.mpr h)).mono fun _ _ ⟨s, he, hR⟩ => ⟨s, he, hR⟩

/-- foliant/foliantlaw42.MatrixComposes -/
def S5 (a1 : Int × Int × Int × Int × Int × Int) (b2 : Int × Int × Int × Int × Int × Int) (c3 : Int × Int × Int × Int × Int × Int) (p4 : Int × Int) (w : World) (R : Bool → World → Prop) : Prop :=
  Nw w (.cells #[.int .i64 (a1.1), .int .i64 (a1.2.1), .int .i64 (a1.2.2.1), .int .i64 (a1.2.2.2.1), .int .i64 (a1.2.2.2.2.1), .int .i64 (a1.2.2.2.2.2)] 23) fun vw5 =>
  Nw vw5 (.cells #[.int .i64 (b2.1), .int .i64 (b2.2.1), .int .i64 (b2.2.2.1), .int .i64 (b2.2.2.2.1), .int .i64 (b2.2.2.2.2.1), .int .i64 (b2.2.2.2.2.2)] 23) fun vw6 =>
  Nw vw6 (.cells #[.int .i64 (c3.1), .int .i64 (c3.2.1), .int .i64 (c3.2.2.1), .int .i64 (c3.2.2.2.1), .int .i64 (c3.2.2.2.2.1), .int .i64 (c3.2.2.2.2.2)] 23) fun vw7 =>
  Nw vw7 (.cells #[.int .i64 (p4.1), .int .i64 (p4.2)] 25) fun vw8 =>
  C13 vw8 fun r11 vw12 =>
    Br (!r11) (R false vw12) (Ld vw12 (⟨w.heap.size, 0, none⟩ : Addr) (Value.int .i64) fun (x13 : Int) =>
      Ld vw12 ((⟨w.heap.size, 0, none⟩ : Addr).add 1) (Value.int .i64) fun (x14 : Int) =>
      Ld vw12 ((⟨w.heap.size, 0, none⟩ : Addr).add 2) (Value.int .i64) fun (x15 : Int) =>
      Ld vw12 ((⟨w.heap.size, 0, none⟩ : Addr).add 3) (Value.int .i64) fun (x16 : Int) =>
      Ld vw12 ((⟨w.heap.size, 0, none⟩ : Addr).add 4) (Value.int .i64) fun (x17 : Int) =>
      Ld vw12 ((⟨w.heap.size, 0, none⟩ : Addr).add 5) (Value.int .i64) fun (x18 : Int) =>
      C35 (x13, x14, x15, x16, x17, x18) vw12 fun r19 r20 vw21 =>
        Nw vw21 (.cells #[.int .i64 0, .int .i64 0, .int .i64 0, .int .i64 0, .int .i64 0, .int .i64 0] 23) fun vw22 =>
        St vw22 (⟨vw21.heap.size, 0, none⟩ : Addr) (.int .i64 (r19.1)) fun vw23 =>
        St vw23 ((⟨vw21.heap.size, 0, none⟩ : Addr).add 1) (.int .i64 (r19.2.1)) fun vw24 =>
        St vw24 ((⟨vw21.heap.size, 0, none⟩ : Addr).add 2) (.int .i64 (r19.2.2.1)) fun vw25 =>
        St vw25 ((⟨vw21.heap.size, 0, none⟩ : Addr).add 3) (.int .i64 (r19.2.2.2.1)) fun vw26 =>
        St vw26 ((⟨vw21.heap.size, 0, none⟩ : Addr).add 4) (.int .i64 (r19.2.2.2.2.1)) fun vw27 =>
        St vw27 ((⟨vw21.heap.size, 0, none⟩ : Addr).add 5) (.int .i64 (r19.2.2.2.2.2)) fun vw28 =>
        Ld vw28 (⟨vw5.heap.size, 0, none⟩ : Addr) (Value.int .i64) fun (x29 : Int) =>
        Ld vw28 ((⟨vw5.heap.size, 0, none⟩ : Addr).add 1) (Value.int .i64) fun (x30 : Int) =>
        Ld vw28 ((⟨vw5.heap.size, 0, none⟩ : Addr).add 2) (Value.int .i64) fun (x31 : Int) =>
        Ld vw28 ((⟨vw5.heap.size, 0, none⟩ : Addr).add 3) (Value.int .i64) fun (x32 : Int) =>
        Ld vw28 ((⟨vw5.heap.size, 0, none⟩ : Addr).add 4) (Value.int .i64) fun (x33 : Int) =>
        Ld vw28 ((⟨vw5.heap.size, 0, none⟩ : Addr).add 5) (Value.int .i64) fun (x34 : Int) =>
        C35 (x29, x30, x31, x32, x33, x34) vw28 fun r35 r36 vw37 =>
          Nw vw37 (.cells #[.int .i64 0, .int .i64 0, .int .i64 0, .int .i64 0, .int .i64 0, .int .i64 0] 23) fun vw38 =>
          St vw38 (⟨vw37.heap.size, 0, none⟩ : Addr) (.int .i64 (r35.1)) fun vw39 =>
          St vw39 ((⟨vw37.heap.size, 0, none⟩ : Addr).add 1) (.int .i64 (r35.2.1)) fun vw40 =>
          St vw40 ((⟨vw37.heap.size, 0, none⟩ : Addr).add 2) (.int .i64 (r35.2.2.1)) fun vw41 =>
          St vw41 ((⟨vw37.heap.size, 0, none⟩ : Addr).add 3) (.int .i64 (r35.2.2.2.1)) fun vw42 =>
          St vw42 ((⟨vw37.heap.size, 0, none⟩ : Addr).add 4) (.int .i64 (r35.2.2.2.2.1)) fun vw43 =>
          St vw43 ((⟨vw37.heap.size, 0, none⟩ : Addr).add 5) (.int .i64 (r35.2.2.2.2.2)) fun vw44 =>
          Ld vw44 (⟨vw6.heap.size, 0, none⟩ : Addr) (Value.int .i64) fun (x45 : Int) =>
          Ld vw44 ((⟨vw6.heap.size, 0, none⟩ : Addr).add 1) (Value.int .i64) fun (x46 : Int) =>
          Ld vw44 ((⟨vw6.heap.size, 0, none⟩ : Addr).add 2) (Value.int .i64) fun (x47 : Int) =>
          Ld vw44 ((⟨vw6.heap.size, 0, none⟩ : Addr).add 3) (Value.int .i64) fun (x48 : Int) =>
          Ld vw44 ((⟨vw6.heap.size, 0, none⟩ : Addr).add 4) (Value.int .i64) fun (x49 : Int) =>
          Ld vw44 ((⟨vw6.heap.size, 0, none⟩ : Addr).add 5) (Value.int .i64) fun (x50 : Int) =>
          C35 (x45, x46, x47, x48, x49, x50) vw44 fun r51 r52 vw53 =>
            Nw vw53 (.cells #[.int .i64 0, .int .i64 0, .int .i64 0, .int .i64 0, .int .i64 0, .int .i64 0] 23) fun vw54 =>
            St vw54 (⟨vw53.heap.size, 0, none⟩ : Addr) (.int .i64 (r51.1)) fun vw55 =>
            St vw55 ((⟨vw53.heap.size, 0, none⟩ : Addr).add 1) (.int .i64 (r51.2.1)) fun vw56 =>
            St vw56 ((⟨vw53.heap.size, 0, none⟩ : Addr).add 2) (.int .i64 (r51.2.2.1)) fun vw57 =>
            St vw57 ((⟨vw53.heap.size, 0, none⟩ : Addr).add 3) (.int .i64 (r51.2.2.2.1)) fun vw58 =>
            St vw58 ((⟨vw53.heap.size, 0, none⟩ : Addr).add 4) (.int .i64 (r51.2.2.2.2.1)) fun vw59 =>
            St vw59 ((⟨vw53.heap.size, 0, none⟩ : Addr).add 5) (.int .i64 (r51.2.2.2.2.2)) fun vw60 =>
            Br (!r20) (R true vw60) (Br (!r36) (R true vw60) (Br (!r52) (R true vw60) (Ld vw60 (⟨vw7.heap.size, 0, none⟩ : Addr) (Value.int .i64) fun (x65 : Int) =>
                  Br (decide (x65 < (-1000))) (R true vw60) (Ld vw60 (⟨vw7.heap.size, 0, none⟩ : Addr) (Value.int .i64) fun (x66 : Int) =>
                    Br (decide (x66 > 1000)) (R true vw60) (Ld vw60 ((⟨vw7.heap.size, 0, none⟩ : Addr).add 1) (Value.int .i64) fun (x67 : Int) =>
                      Br (decide (x67 < (-1000))) (R true vw60) (Ld vw60 ((⟨vw7.heap.size, 0, none⟩ : Addr).add 1) (Value.int .i64) fun (x68 : Int) =>
                        Br (decide (x68 > 1000)) (R true vw60) (Ld vw60 (⟨vw21.heap.size, 0, none⟩ : Addr) (Value.int .i64) fun (x69 : Int) =>
                          Ld vw60 ((⟨vw21.heap.size, 0, none⟩ : Addr).add 1) (Value.int .i64) fun (x70 : Int) =>
                          Ld vw60 ((⟨vw21.heap.size, 0, none⟩ : Addr).add 2) (Value.int .i64) fun (x71 : Int) =>
                          Ld vw60 ((⟨vw21.heap.size, 0, none⟩ : Addr).add 3) (Value.int .i64) fun (x72 : Int) =>
                          Ld vw60 ((⟨vw21.heap.size, 0, none⟩ : Addr).add 4) (Value.int .i64) fun (x73 : Int) =>
                          Ld vw60 ((⟨vw21.heap.size, 0, none⟩ : Addr).add 5) (Value.int .i64) fun (x74 : Int) =>
                          Ld vw60 (⟨vw37.heap.size, 0, none⟩ : Addr) (Value.int .i64) fun (x75 : Int) =>
                          Ld vw60 ((⟨vw37.heap.size, 0, none⟩ : Addr).add 1) (Value.int .i64) fun (x76 : Int) =>
                          Ld vw60 ((⟨vw37.heap.size, 0, none⟩ : Addr).add 2) (Value.int .i64) fun (x77 : Int) =>
                          Ld vw60 ((⟨vw37.heap.size, 0, none⟩ : Addr).add 3) (Value.int .i64) fun (x78 : Int) =>
                          Ld vw60 ((⟨vw37.heap.size, 0, none⟩ : Addr).add 4) (Value.int .i64) fun (x79 : Int) =>
                          Ld vw60 ((⟨vw37.heap.size, 0, none⟩ : Addr).add 5) (Value.int .i64) fun (x80 : Int) =>
                          C14 (x69, x70, x71, x72, x73, x74) (x75, x76, x77, x78, x79, x80) vw60 fun r81 r82 vw83 =>
                            Nw vw83 (.cells #[.int .i64 0, .int .i64 0, .int .i64 0, .int .i64 0, .int .i64 0, .int .i64 0] 23) fun vw84 =>
                            St vw84 (⟨vw83.heap.size, 0, none⟩ : Addr) (.int .i64 (r81.1)) fun vw85 =>
                            St vw85 ((⟨vw83.heap.size, 0, none⟩ : Addr).add 1) (.int .i64 (r81.2.1)) fun vw86 =>
                            St vw86 ((⟨vw83.heap.size, 0, none⟩ : Addr).add 2) (.int .i64 (r81.2.2.1)) fun vw87 =>
                            St vw87 ((⟨vw83.heap.size, 0, none⟩ : Addr).add 3) (.int .i64 (r81.2.2.2.1)) fun vw88 =>
                            St vw88 ((⟨vw83.heap.size, 0, none⟩ : Addr).add 4) (.int .i64 (r81.2.2.2.2.1)) fun vw89 =>
                            St vw89 ((⟨vw83.heap.size, 0, none⟩ : Addr).add 5) (.int .i64 (r81.2.2.2.2.2)) fun vw90 =>
                            Ld vw90 (⟨vw83.heap.size, 0, none⟩ : Addr) (Value.int .i64) fun (x91 : Int) =>
                            Ld vw90 ((⟨vw83.heap.size, 0, none⟩ : Addr).add 1) (Value.int .i64) fun (x92 : Int) =>
                            Ld vw90 ((⟨vw83.heap.size, 0, none⟩ : Addr).add 2) (Value.int .i64) fun (x93 : Int) =>
                            Ld vw90 ((⟨vw83.heap.size, 0, none⟩ : Addr).add 3) (Value.int .i64) fun (x94 : Int) =>
                            Ld vw90 ((⟨vw83.heap.size, 0, none⟩ : Addr).add 4) (Value.int .i64) fun (x95 : Int) =>
                            Ld vw90 ((⟨vw83.heap.size, 0, none⟩ : Addr).add 5) (Value.int .i64) fun (x96 : Int) =>
                            Ld vw90 (⟨vw53.heap.size, 0, none⟩ : Addr) (Value.int .i64) fun (x97 : Int) =>
                            Ld vw90 ((⟨vw53.heap.size, 0, none⟩ : Addr).add 1) (Value.int .i64) fun (x98 : Int) =>
                            Ld vw90 ((⟨vw53.heap.size, 0, none⟩ : Addr).add 2) (Value.int .i64) fun (x99 : Int) =>
                            Ld vw90 ((⟨vw53.heap.size, 0, none⟩ : Addr).add 3) (Value.int .i64) fun (x100 : Int) =>
                            Ld vw90 ((⟨vw53.heap.size, 0, none⟩ : Addr).add 4) (Value.int .i64) fun (x101 : Int) =>
                            Ld vw90 ((⟨vw53.heap.size, 0, none⟩ : Addr).add 5) (Value.int .i64) fun (x102 : Int) =>
                            C14 (x91, x92, x93, x94, x95, x96) (x97, x98, x99, x100, x101, x102) vw90 fun r103 r104 vw105 =>
                              Nw vw105 (.cells #[.int .i64 0, .int .i64 0, .int .i64 0, .int .i64 0, .int .i64 0, .int .i64 0] 23) fun vw106 =>
                              St vw106 (⟨vw105.heap.size, 0, none⟩ : Addr) (.int .i64 (r103.1)) fun vw107 =>
                              St vw107 ((⟨vw105.heap.size, 0, none⟩ : Addr).add 1) (.int .i64 (r103.2.1)) fun vw108 =>
                              St vw108 ((⟨vw105.heap.size, 0, none⟩ : Addr).add 2) (.int .i64 (r103.2.2.1)) fun vw109 =>
                              St vw109 ((⟨vw105.heap.size, 0, none⟩ : Addr).add 3) (.int .i64 (r103.2.2.2.1)) fun vw110 =>
                              St vw110 ((⟨vw105.heap.size, 0, none⟩ : Addr).add 4) (.int .i64 (r103.2.2.2.2.1)) fun vw111 =>
                              St vw111 ((⟨vw105.heap.size, 0, none⟩ : Addr).add 5) (.int .i64 (r103.2.2.2.2.2)) fun vw112 =>
                              Ld vw112 (⟨vw37.heap.size, 0, none⟩ : Addr) (Value.int .i64) fun (x113 : Int) =>
                              Ld vw112 ((⟨vw37.heap.size, 0, none⟩ : Addr).add 1) (Value.int .i64) fun (x114 : Int) =>
                              Ld vw112 ((⟨vw37.heap.size, 0, none⟩ : Addr).add 2) (Value.int .i64) fun (x115 : Int) =>
                              Ld vw112 ((⟨vw37.heap.size, 0, none⟩ : Addr).add 3) (Value.int .i64) fun (x116 : Int) =>
                              Ld vw112 ((⟨vw37.heap.size, 0, none⟩ : Addr).add 4) (Value.int .i64) fun (x117 : Int) =>
                              Ld vw112 ((⟨vw37.heap.size, 0, none⟩ : Addr).add 5) (Value.int .i64) fun (x118 : Int) =>
                              Ld vw112 (⟨vw53.heap.size, 0, none⟩ : Addr) (Value.int .i64) fun (x119 : Int) =>
                              Ld vw112 ((⟨vw53.heap.size, 0, none⟩ : Addr).add 1) (Value.int .i64) fun (x120 : Int) =>
                              Ld vw112 ((⟨vw53.heap.size, 0, none⟩ : Addr).add 2) (Value.int .i64) fun (x121 : Int) =>
                              Ld vw112 ((⟨vw53.heap.size, 0, none⟩ : Addr).add 3) (Value.int .i64) fun (x122 : Int) =>
                              Ld vw112 ((⟨vw53.heap.size, 0, none⟩ : Addr).add 4) (Value.int .i64) fun (x123 : Int) =>
                              Ld vw112 ((⟨vw53.heap.size, 0, none⟩ : Addr).add 5) (Value.int .i64) fun (x124 : Int) =>
                              C14 (x113, x114, x115, x116, x117, x118) (x119, x120, x121, x122, x123, x124) vw112 fun r125 r126 vw127 =>
                                Nw vw127 (.cells #[.int .i64 0, .int .i64 0, .int .i64 0, .int .i64 0, .int .i64 0, .int .i64 0] 23) fun vw128 =>
                                St vw128 (⟨vw127.heap.size, 0, none⟩ : Addr) (.int .i64 (r125.1)) fun vw129 =>
                                St vw129 ((⟨vw127.heap.size, 0, none⟩ : Addr).add 1) (.int .i64 (r125.2.1)) fun vw130 =>
                                St vw130 ((⟨vw127.heap.size, 0, none⟩ : Addr).add 2) (.int .i64 (r125.2.2.1)) fun vw131 =>
                                St vw131 ((⟨vw127.heap.size, 0, none⟩ : Addr).add 3) (.int .i64 (r125.2.2.2.1)) fun vw132 =>
                                St vw132 ((⟨vw127.heap.size, 0, none⟩ : Addr).add 4) (.int .i64 (r125.2.2.2.2.1)) fun vw133 =>
                                St vw133 ((⟨vw127.heap.size, 0, none⟩ : Addr).add 5) (.int .i64 (r125.2.2.2.2.2)) fun vw134 =>
                                Ld vw134 (⟨vw21.heap.size, 0, none⟩ : Addr) (Value.int .i64) fun (x135 : Int) =>
                                Ld vw134 ((⟨vw21.heap.size, 0, none⟩ : Addr).add 1) (Value.int .i64) fun (x136 : Int) =>
                                Ld vw134 ((⟨vw21.heap.size, 0, none⟩ : Addr).add 2) (Value.int .i64) fun (x137 : Int) =>
                                Ld vw134 ((⟨vw21.heap.size, 0, none⟩ : Addr).add 3) (Value.int .i64) fun (x138 : Int) =>
                                Ld vw134 ((⟨vw21.heap.size, 0, none⟩ : Addr).add 4) (Value.int .i64) fun (x139 : Int) =>
                                Ld vw134 ((⟨vw21.heap.size, 0, none⟩ : Addr).add 5) (Value.int .i64) fun (x140 : Int) =>
                                Ld vw134 (⟨vw127.heap.size, 0, none⟩ : Addr) (Value.int .i64) fun (x141 : Int) =>
                                Ld vw134 ((⟨vw127.heap.size, 0, none⟩ : Addr).add 1) (Value.int .i64) fun (x142 : Int) =>
                                Ld vw134 ((⟨vw127.heap.size, 0, none⟩ : Addr).add 2) (Value.int .i64) fun (x143 : Int) =>
                                Ld vw134 ((⟨vw127.heap.size, 0, none⟩ : Addr).add 3) (Value.int .i64) fun (x144 : Int) =>
                                Ld vw134 ((⟨vw127.heap.size, 0, none⟩ : Addr).add 4) (Value.int .i64) fun (x145 : Int) =>
                                Ld vw134 ((⟨vw127.heap.size, 0, none⟩ : Addr).add 5) (Value.int .i64) fun (x146 : Int) =>
                                C14 (x135, x136, x137, x138, x139, x140) (x141, x142, x143, x144, x145, x146) vw134 fun r147 r148 vw149 =>
                                  Nw vw149 (.cells #[.int .i64 0, .int .i64 0, .int .i64 0, .int .i64 0, .int .i64 0, .int .i64 0] 23) fun vw150 =>
                                  St vw150 (⟨vw149.heap.size, 0, none⟩ : Addr) (.int .i64 (r147.1)) fun vw151 =>
                                  St vw151 ((⟨vw149.heap.size, 0, none⟩ : Addr).add 1) (.int .i64 (r147.2.1)) fun vw152 =>
                                  St vw152 ((⟨vw149.heap.size, 0, none⟩ : Addr).add 2) (.int .i64 (r147.2.2.1)) fun vw153 =>
                                  St vw153 ((⟨vw149.heap.size, 0, none⟩ : Addr).add 3) (.int .i64 (r147.2.2.2.1)) fun vw154 =>
                                  St vw154 ((⟨vw149.heap.size, 0, none⟩ : Addr).add 4) (.int .i64 (r147.2.2.2.2.1)) fun vw155 =>
                                  St vw155 ((⟨vw149.heap.size, 0, none⟩ : Addr).add 5) (.int .i64 (r147.2.2.2.2.2)) fun vw156 =>
                                  Ld vw156 (⟨vw21.heap.size, 0, none⟩ : Addr) (Value.int .i64) fun (x157 : Int) =>
                                  Ld vw156 ((⟨vw21.heap.size, 0, none⟩ : Addr).add 1) (Value.int .i64) fun (x158 : Int) =>
                                  Ld vw156 ((⟨vw21.heap.size, 0, none⟩ : Addr).add 2) (Value.int .i64) fun (x159 : Int) =>
                                  Ld vw156 ((⟨vw21.heap.size, 0, none⟩ : Addr).add 3) (Value.int .i64) fun (x160 : Int) =>
                                  Ld vw156 ((⟨vw21.heap.size, 0, none⟩ : Addr).add 4) (Value.int .i64) fun (x161 : Int) =>
                                  Ld vw156 ((⟨vw21.heap.size, 0, none⟩ : Addr).add 5) (Value.int .i64) fun (x162 : Int) =>
                                  Ld vw156 (⟨vw7.heap.size, 0, none⟩ : Addr) (Value.int .i64) fun (x163 : Int) =>
                                  Ld vw156 ((⟨vw7.heap.size, 0, none⟩ : Addr).add 1) (Value.int .i64) fun (x164 : Int) =>
                                  C16 (x157, x158, x159, x160, x161, x162) (x163, x164) vw156 fun r165 r166 vw167 =>
                                    Nw vw167 (.cells #[.int .i64 0, .int .i64 0] 25) fun vw168 =>
                                    St vw168 (⟨vw167.heap.size, 0, none⟩ : Addr) (.int .i64 (r165.1)) fun vw169 =>
                                    St vw169 ((⟨vw167.heap.size, 0, none⟩ : Addr).add 1) (.int .i64 (r165.2)) fun vw170 =>
                                    Ld vw170 (⟨vw37.heap.size, 0, none⟩ : Addr) (Value.int .i64) fun (x171 : Int) =>
                                    Ld vw170 ((⟨vw37.heap.size, 0, none⟩ : Addr).add 1) (Value.int .i64) fun (x172 : Int) =>
                                    Ld vw170 ((⟨vw37.heap.size, 0, none⟩ : Addr).add 2) (Value.int .i64) fun (x173 : Int) =>
                                    Ld vw170 ((⟨vw37.heap.size, 0, none⟩ : Addr).add 3) (Value.int .i64) fun (x174 : Int) =>
                                    Ld vw170 ((⟨vw37.heap.size, 0, none⟩ : Addr).add 4) (Value.int .i64) fun (x175 : Int) =>
                                    Ld vw170 ((⟨vw37.heap.size, 0, none⟩ : Addr).add 5) (Value.int .i64) fun (x176 : Int) =>
                                    Ld vw170 (⟨vw167.heap.size, 0, none⟩ : Addr) (Value.int .i64) fun (x177 : Int) =>
                                    Ld vw170 ((⟨vw167.heap.size, 0, none⟩ : Addr).add 1) (Value.int .i64) fun (x178 : Int) =>
                                    C16 (x171, x172, x173, x174, x175, x176) (x177, x178) vw170 fun r179 r180 vw181 =>
                                      Nw vw181 (.cells #[.int .i64 0, .int .i64 0] 25) fun vw182 =>
                                      St vw182 (⟨vw181.heap.size, 0, none⟩ : Addr) (.int .i64 (r179.1)) fun vw183 =>
                                      St vw183 ((⟨vw181.heap.size, 0, none⟩ : Addr).add 1) (.int .i64 (r179.2)) fun vw184 =>
                                      Ld vw184 (⟨vw83.heap.size, 0, none⟩ : Addr) (Value.int .i64) fun (x185 : Int) =>
                                      Ld vw184 ((⟨vw83.heap.size, 0, none⟩ : Addr).add 1) (Value.int .i64) fun (x186 : Int) =>
                                      Ld vw184 ((⟨vw83.heap.size, 0, none⟩ : Addr).add 2) (Value.int .i64) fun (x187 : Int) =>
                                      Ld vw184 ((⟨vw83.heap.size, 0, none⟩ : Addr).add 3) (Value.int .i64) fun (x188 : Int) =>
                                      Ld vw184 ((⟨vw83.heap.size, 0, none⟩ : Addr).add 4) (Value.int .i64) fun (x189 : Int) =>
                                      Ld vw184 ((⟨vw83.heap.size, 0, none⟩ : Addr).add 5) (Value.int .i64) fun (x190 : Int) =>
                                      Ld vw184 (⟨vw7.heap.size, 0, none⟩ : Addr) (Value.int .i64) fun (x191 : Int) =>
                                      Ld vw184 ((⟨vw7.heap.size, 0, none⟩ : Addr).add 1) (Value.int .i64) fun (x192 : Int) =>
                                      C16 (x185, x186, x187, x188, x189, x190) (x191, x192) vw184 fun r193 r194 vw195 =>
                                        Nw vw195 (.cells #[.int .i64 0, .int .i64 0] 25) fun vw196 =>
                                        St vw196 (⟨vw195.heap.size, 0, none⟩ : Addr) (.int .i64 (r193.1)) fun vw197 =>
                                        St vw197 ((⟨vw195.heap.size, 0, none⟩ : Addr).add 1) (.int .i64 (r193.2)) fun vw198 =>
                                        Br (r82 == 0) (Br (r104 == 0) (Br (r126 == 0) (Br (r148 == 0) (Br (r166 == 0) (Br (r180 == 0) (Br (r194 == 0) (Ld vw198 (⟨vw105.heap.size, 0, none⟩ : Addr) (Value.int .i64) fun (x199 : Int) =>
                                                      Ld vw198 ((⟨vw105.heap.size, 0, none⟩ : Addr).add 1) (Value.int .i64) fun (x200 : Int) =>
                                                      Ld vw198 ((⟨vw105.heap.size, 0, none⟩ : Addr).add 2) (Value.int .i64) fun (x201 : Int) =>
                                                      Ld vw198 ((⟨vw105.heap.size, 0, none⟩ : Addr).add 3) (Value.int .i64) fun (x202 : Int) =>
                                                      Ld vw198 ((⟨vw105.heap.size, 0, none⟩ : Addr).add 4) (Value.int .i64) fun (x203 : Int) =>
                                                      Ld vw198 ((⟨vw105.heap.size, 0, none⟩ : Addr).add 5) (Value.int .i64) fun (x204 : Int) =>
                                                      Ld vw198 (⟨vw149.heap.size, 0, none⟩ : Addr) (Value.int .i64) fun (x205 : Int) =>
                                                      Ld vw198 ((⟨vw149.heap.size, 0, none⟩ : Addr).add 1) (Value.int .i64) fun (x206 : Int) =>
                                                      Ld vw198 ((⟨vw149.heap.size, 0, none⟩ : Addr).add 2) (Value.int .i64) fun (x207 : Int) =>
                                                      Ld vw198 ((⟨vw149.heap.size, 0, none⟩ : Addr).add 3) (Value.int .i64) fun (x208 : Int) =>
                                                      Ld vw198 ((⟨vw149.heap.size, 0, none⟩ : Addr).add 4) (Value.int .i64) fun (x209 : Int) =>
                                                      Ld vw198 ((⟨vw149.heap.size, 0, none⟩ : Addr).add 5) (Value.int .i64) fun (x210 : Int) =>
                                                      Lt (((x199 == x205) && ((x200 == x206) && ((x201 == x207) && ((x202 == x208) && ((x203 == x209) && ((x204 == x210) && true))))))) fun (x211 : Bool) =>
                                                      Br x211 (Ld vw198 (⟨vw181.heap.size, 0, none⟩ : Addr) (Value.int .i64) fun (x212 : Int) =>
                                                        Ld vw198 ((⟨vw181.heap.size, 0, none⟩ : Addr).add 1) (Value.int .i64) fun (x213 : Int) =>
                                                        Ld vw198 (⟨vw195.heap.size, 0, none⟩ : Addr) (Value.int .i64) fun (x214 : Int) =>
                                                        Ld vw198 ((⟨vw195.heap.size, 0, none⟩ : Addr).add 1) (Value.int .i64) fun (x215 : Int) =>
                                                        R ((x212 == x214) && ((x213 == x215) && true)) vw198) (R false vw198)) (R false vw198)) (R false vw198)) (R false vw198)) (R false vw198)) (R false vw198)) (R false vw198)) (R false vw198)))))))))
def pl5 : Plan := (.seq (.reg .seq) (.seq (.seq (.reg .seq) (.cond (.seq (.reg .seq) .leaf) .leaf)) (.seq (.reg .seq) (.seq (.reg .seq) (.seq (.reg .seq) (.seq (.seq (.reg .seq) (.cond (.seq (.reg .seq) .leaf) .leaf)) (.seq (.reg .seq) (.seq (.reg .seq) (.seq (.reg .seq) (.seq (.reg .seq) (.seq (.reg .seq) (.seq (.reg .seq) (.seq (.reg .seq) (.seq (.reg .seq) .leaf))))))))))))))
set_option maxRecDepth 100000 in
theorem T5 (a1 : Int × Int × Int × Int × Int × Int) (b2 : Int × Int × Int × Int × Int × Int) (c3 : Int × Int × Int × Int × Int × Int) (p4 : Int × Int) (w : World) (R : Bool → World → Prop) (h : S5 a1 b2 c3 p4 w R) : C5 (a1.1, a1.2.1, a1.2.2.1, a1.2.2.2.1, a1.2.2.2.2.1, a1.2.2.2.2.2) (b2.1, b2.2.1, b2.2.2.1, b2.2.2.2.1, b2.2.2.2.2.1, b2.2.2.2.2.2) (c3.1, c3.2.1, c3.2.2.1, c3.2.2.2.1, c3.2.2.2.2.1, c3.2.2.2.2.2) (p4.1, p4.2) w R := by
  have e : fnT Try.prog ⟨FF, MAY, (fun _ _ => False)⟩ pl5 Try.f5 [.agg #[.int .i64 (a1.1), .int .i64 (a1.2.1), .int .i64 (a1.2.2.1), .int .i64 (a1.2.2.2.1), .int .i64 (a1.2.2.2.2.1), .int .i64 (a1.2.2.2.2.2)], .agg #[.int .i64 (b2.1), .int .i64 (b2.2.1), .int .i64 (b2.2.2.1), .int .i64 (b2.2.2.2.1), .int .i64 (b2.2.2.2.2.1), .int .i64 (b2.2.2.2.2.2)], .agg #[.int .i64 (c3.1), .int .i64 (c3.2.1), .int .i64 (c3.2.2.1), .int .i64 (c3.2.2.2.1), .int .i64 (c3.2.2.2.2.1), .int .i64 (c3.2.2.2.2.2)], .agg #[.int .i64 (p4.1), .int .i64 (p4.2)]] w [(.one .bool)] (fun s w => R s w) = S5 a1 b2 c3 p4 w R := by kernel_rfl
  exact (fn_calls okF okM Try.func5 (by kernel_rfl) (by kernel_rfl) (e.mpr h)).mono fun _ _ ⟨s, he, hR⟩ => ⟨s, he, hR⟩

def S6L1 (w : World) (vw4 : World) (vw5 : World) (vw10 : World) (R : Bool → World → Prop) (I48 : Int → World → Prop) (s46 : Int) (vw47 : World) : Prop :=
  Br (decide (s46 < (((⟨some ⟨vw10.heap.size, 0, none⟩, 14, 14⟩ : Slc).len : Nat) : Int))) (0 ≤ s46 ∧ s46 < ((⟨some ⟨vw10.heap.size, 0, none⟩, 14, 14⟩ : Slc).len : Nat) ∧ Nn (⟨some ⟨vw10.heap.size, 0, none⟩, 14, 14⟩ : Slc).p fun a49 =>
    Ld vw47 (a49.add ((s46).toNat * 1)) (Value.int .i64) fun (x50 : Int) =>
    Br (decide (x50 < (-2000000))) (R true vw47) (Br (decide (x50 > 2000000)) (R true vw47) (I48 (IntKind.i64.wrap (s46 + 1)) vw47))) (Ld vw47 (⟨w.heap.size, 0, none⟩ : Addr) (Value.int .i64) fun (x51 : Int) =>
    Ld vw47 ((⟨w.heap.size, 0, none⟩ : Addr).add 1) (Value.int .i64) fun (x52 : Int) =>
    Ld vw47 ((⟨w.heap.size, 0, none⟩ : Addr).add 2) (Value.int .i64) fun (x53 : Int) =>
    Ld vw47 ((⟨w.heap.size, 0, none⟩ : Addr).add 3) (Value.int .i64) fun (x54 : Int) =>
    Ld vw47 ((⟨w.heap.size, 0, none⟩ : Addr).add 4) (Value.int .i64) fun (x55 : Int) =>
    Ld vw47 ((⟨w.heap.size, 0, none⟩ : Addr).add 5) (Value.int .i64) fun (x56 : Int) =>
    Ld vw47 (⟨vw4.heap.size, 0, none⟩ : Addr) (Value.int .i64) fun (x57 : Int) =>
    Ld vw47 ((⟨vw4.heap.size, 0, none⟩ : Addr).add 1) (Value.int .i64) fun (x58 : Int) =>
    Ld vw47 ((⟨vw4.heap.size, 0, none⟩ : Addr).add 2) (Value.int .i64) fun (x59 : Int) =>
    Ld vw47 ((⟨vw4.heap.size, 0, none⟩ : Addr).add 3) (Value.int .i64) fun (x60 : Int) =>
    Ld vw47 ((⟨vw4.heap.size, 0, none⟩ : Addr).add 4) (Value.int .i64) fun (x61 : Int) =>
    Ld vw47 ((⟨vw4.heap.size, 0, none⟩ : Addr).add 5) (Value.int .i64) fun (x62 : Int) =>
    C14 (x51, x52, x53, x54, x55, x56) (x57, x58, x59, x60, x61, x62) vw47 fun r63 r64 vw65 =>
      Nw vw65 (.cells #[.int .i64 0, .int .i64 0, .int .i64 0, .int .i64 0, .int .i64 0, .int .i64 0] 23) fun vw66 =>
      St vw66 (⟨vw65.heap.size, 0, none⟩ : Addr) (.int .i64 (r63.1)) fun vw67 =>
      St vw67 ((⟨vw65.heap.size, 0, none⟩ : Addr).add 1) (.int .i64 (r63.2.1)) fun vw68 =>
      St vw68 ((⟨vw65.heap.size, 0, none⟩ : Addr).add 2) (.int .i64 (r63.2.2.1)) fun vw69 =>
      St vw69 ((⟨vw65.heap.size, 0, none⟩ : Addr).add 3) (.int .i64 (r63.2.2.2.1)) fun vw70 =>
      St vw70 ((⟨vw65.heap.size, 0, none⟩ : Addr).add 4) (.int .i64 (r63.2.2.2.2.1)) fun vw71 =>
      St vw71 ((⟨vw65.heap.size, 0, none⟩ : Addr).add 5) (.int .i64 (r63.2.2.2.2.2)) fun vw72 =>
      Ld vw72 (⟨w.heap.size, 0, none⟩ : Addr) (Value.int .i64) fun (x73 : Int) =>
      Ld vw72 ((⟨w.heap.size, 0, none⟩ : Addr).add 1) (Value.int .i64) fun (x74 : Int) =>
      Ld vw72 ((⟨w.heap.size, 0, none⟩ : Addr).add 2) (Value.int .i64) fun (x75 : Int) =>
      Ld vw72 ((⟨w.heap.size, 0, none⟩ : Addr).add 3) (Value.int .i64) fun (x76 : Int) =>
      Ld vw72 ((⟨w.heap.size, 0, none⟩ : Addr).add 4) (Value.int .i64) fun (x77 : Int) =>
      Ld vw72 ((⟨w.heap.size, 0, none⟩ : Addr).add 5) (Value.int .i64) fun (x78 : Int) =>
      Ld vw72 (⟨vw5.heap.size, 0, none⟩ : Addr) (Value.int .i64) fun (x79 : Int) =>
      Ld vw72 ((⟨vw5.heap.size, 0, none⟩ : Addr).add 1) (Value.int .i64) fun (x80 : Int) =>
      C16 (x73, x74, x75, x76, x77, x78) (x79, x80) vw72 fun r81 r82 vw83 =>
        Nw vw83 (.cells #[.int .i64 0, .int .i64 0] 25) fun vw84 =>
        St vw84 (⟨vw83.heap.size, 0, none⟩ : Addr) (.int .i64 (r81.1)) fun vw85 =>
        St vw85 ((⟨vw83.heap.size, 0, none⟩ : Addr).add 1) (.int .i64 (r81.2)) fun vw86 =>
        Br (r64 != 0) (R false vw86) (Br (r82 != 0) (R false vw86) (Ld vw86 (⟨vw65.heap.size, 0, none⟩ : Addr) (Value.int .i64) fun (x87 : Int) =>
            Ld vw86 (⟨w.heap.size, 0, none⟩ : Addr) (Value.int .i64) fun (x88 : Int) =>
            Ld vw86 (⟨vw4.heap.size, 0, none⟩ : Addr) (Value.int .i64) fun (x89 : Int) =>
            Ld vw86 ((⟨w.heap.size, 0, none⟩ : Addr).add 1) (Value.int .i64) fun (x90 : Int) =>
            Ld vw86 ((⟨vw4.heap.size, 0, none⟩ : Addr).add 2) (Value.int .i64) fun (x91 : Int) =>
            C36 x87 (IntKind.i64.wrap ((IntKind.i64.wrap (x88 * x89)) + (IntKind.i64.wrap (x90 * x91)))) vw86 fun r92 vw93 =>
              Br r92 (Ld vw93 ((⟨vw65.heap.size, 0, none⟩ : Addr).add 1) (Value.int .i64) fun (x94 : Int) =>
                Ld vw93 (⟨w.heap.size, 0, none⟩ : Addr) (Value.int .i64) fun (x95 : Int) =>
                Ld vw93 ((⟨vw4.heap.size, 0, none⟩ : Addr).add 1) (Value.int .i64) fun (x96 : Int) =>
                Ld vw93 ((⟨w.heap.size, 0, none⟩ : Addr).add 1) (Value.int .i64) fun (x97 : Int) =>
                Ld vw93 ((⟨vw4.heap.size, 0, none⟩ : Addr).add 3) (Value.int .i64) fun (x98 : Int) =>
                C36 x94 (IntKind.i64.wrap ((IntKind.i64.wrap (x95 * x96)) + (IntKind.i64.wrap (x97 * x98)))) vw93 fun r99 vw100 =>
                  Br r99 (Ld vw100 ((⟨vw65.heap.size, 0, none⟩ : Addr).add 2) (Value.int .i64) fun (x101 : Int) =>
                    Ld vw100 ((⟨w.heap.size, 0, none⟩ : Addr).add 2) (Value.int .i64) fun (x102 : Int) =>
                    Ld vw100 (⟨vw4.heap.size, 0, none⟩ : Addr) (Value.int .i64) fun (x103 : Int) =>
                    Ld vw100 ((⟨w.heap.size, 0, none⟩ : Addr).add 3) (Value.int .i64) fun (x104 : Int) =>
                    Ld vw100 ((⟨vw4.heap.size, 0, none⟩ : Addr).add 2) (Value.int .i64) fun (x105 : Int) =>
                    C36 x101 (IntKind.i64.wrap ((IntKind.i64.wrap (x102 * x103)) + (IntKind.i64.wrap (x104 * x105)))) vw100 fun r106 vw107 =>
                      Br r106 (Ld vw107 ((⟨vw65.heap.size, 0, none⟩ : Addr).add 3) (Value.int .i64) fun (x108 : Int) =>
                        Ld vw107 ((⟨w.heap.size, 0, none⟩ : Addr).add 2) (Value.int .i64) fun (x109 : Int) =>
                        Ld vw107 ((⟨vw4.heap.size, 0, none⟩ : Addr).add 1) (Value.int .i64) fun (x110 : Int) =>
                        Ld vw107 ((⟨w.heap.size, 0, none⟩ : Addr).add 3) (Value.int .i64) fun (x111 : Int) =>
                        Ld vw107 ((⟨vw4.heap.size, 0, none⟩ : Addr).add 3) (Value.int .i64) fun (x112 : Int) =>
                        C36 x108 (IntKind.i64.wrap ((IntKind.i64.wrap (x109 * x110)) + (IntKind.i64.wrap (x111 * x112)))) vw107 fun r113 vw114 =>
                          Br r113 (Ld vw114 ((⟨vw65.heap.size, 0, none⟩ : Addr).add 4) (Value.int .i64) fun (x115 : Int) =>
                            Ld vw114 ((⟨w.heap.size, 0, none⟩ : Addr).add 4) (Value.int .i64) fun (x116 : Int) =>
                            Ld vw114 (⟨vw4.heap.size, 0, none⟩ : Addr) (Value.int .i64) fun (x117 : Int) =>
                            Ld vw114 ((⟨w.heap.size, 0, none⟩ : Addr).add 5) (Value.int .i64) fun (x118 : Int) =>
                            Ld vw114 ((⟨vw4.heap.size, 0, none⟩ : Addr).add 2) (Value.int .i64) fun (x119 : Int) =>
                            Ld vw114 ((⟨vw4.heap.size, 0, none⟩ : Addr).add 4) (Value.int .i64) fun (x120 : Int) =>
                            Lt (IntKind.i64.wrap ((IntKind.i64.wrap ((IntKind.i64.wrap (x116 * x117)) + (IntKind.i64.wrap (x118 * x119)))) + (IntKind.i64.wrap (10000 * x120)))) fun (x121 : Int) =>
                            C36 x115 x121 vw114 fun r122 vw123 =>
                              Br r122 (Ld vw123 ((⟨vw65.heap.size, 0, none⟩ : Addr).add 5) (Value.int .i64) fun (x124 : Int) =>
                                Ld vw123 ((⟨w.heap.size, 0, none⟩ : Addr).add 4) (Value.int .i64) fun (x125 : Int) =>
                                Ld vw123 ((⟨vw4.heap.size, 0, none⟩ : Addr).add 1) (Value.int .i64) fun (x126 : Int) =>
                                Ld vw123 ((⟨w.heap.size, 0, none⟩ : Addr).add 5) (Value.int .i64) fun (x127 : Int) =>
                                Ld vw123 ((⟨vw4.heap.size, 0, none⟩ : Addr).add 3) (Value.int .i64) fun (x128 : Int) =>
                                Ld vw123 ((⟨vw4.heap.size, 0, none⟩ : Addr).add 5) (Value.int .i64) fun (x129 : Int) =>
                                Lt (IntKind.i64.wrap ((IntKind.i64.wrap ((IntKind.i64.wrap (x125 * x126)) + (IntKind.i64.wrap (x127 * x128)))) + (IntKind.i64.wrap (10000 * x129)))) fun (x130 : Int) =>
                                C36 x124 x130 vw123 fun r131 vw132 =>
                                  Br r131 (Ld vw132 (⟨vw83.heap.size, 0, none⟩ : Addr) (Value.int .i64) fun (x133 : Int) =>
                                    Ld vw132 (⟨vw5.heap.size, 0, none⟩ : Addr) (Value.int .i64) fun (x134 : Int) =>
                                    Ld vw132 (⟨w.heap.size, 0, none⟩ : Addr) (Value.int .i64) fun (x135 : Int) =>
                                    Ld vw132 ((⟨vw5.heap.size, 0, none⟩ : Addr).add 1) (Value.int .i64) fun (x136 : Int) =>
                                    Ld vw132 ((⟨w.heap.size, 0, none⟩ : Addr).add 2) (Value.int .i64) fun (x137 : Int) =>
                                    Ld vw132 ((⟨w.heap.size, 0, none⟩ : Addr).add 4) (Value.int .i64) fun (x138 : Int) =>
                                    Lt (IntKind.i64.wrap ((IntKind.i64.wrap ((IntKind.i64.wrap (x134 * x135)) + (IntKind.i64.wrap (x136 * x137)))) + (IntKind.i64.wrap (10000 * x138)))) fun (x139 : Int) =>
                                    C36 x133 x139 vw132 fun r140 vw141 =>
                                      Br r140 (Ld vw141 ((⟨vw83.heap.size, 0, none⟩ : Addr).add 1) (Value.int .i64) fun (x142 : Int) =>
                                        Ld vw141 (⟨vw5.heap.size, 0, none⟩ : Addr) (Value.int .i64) fun (x143 : Int) =>
                                        Ld vw141 ((⟨w.heap.size, 0, none⟩ : Addr).add 1) (Value.int .i64) fun (x144 : Int) =>
                                        Ld vw141 ((⟨vw5.heap.size, 0, none⟩ : Addr).add 1) (Value.int .i64) fun (x145 : Int) =>
                                        Ld vw141 ((⟨w.heap.size, 0, none⟩ : Addr).add 3) (Value.int .i64) fun (x146 : Int) =>
                                        Ld vw141 ((⟨w.heap.size, 0, none⟩ : Addr).add 5) (Value.int .i64) fun (x147 : Int) =>
                                        Lt (IntKind.i64.wrap ((IntKind.i64.wrap ((IntKind.i64.wrap (x143 * x144)) + (IntKind.i64.wrap (x145 * x146)))) + (IntKind.i64.wrap (10000 * x147)))) fun (x148 : Int) =>
                                        C36 x142 x148 vw141 fun r149 vw150 =>
                                          R r149 vw150) (R false vw141)) (R false vw132)) (R false vw123)) (R false vw114)) (R false vw107)) (R false vw100)) (R false vw93))))
/-- foliant/foliantlaw42.MatrixNear -/
def S6 (a1 : Int × Int × Int × Int × Int × Int) (b2 : Int × Int × Int × Int × Int × Int) (p3 : Int × Int) (w : World) (R : Bool → World → Prop) : Prop :=
  Nw w (.cells #[.int .i64 (a1.1), .int .i64 (a1.2.1), .int .i64 (a1.2.2.1), .int .i64 (a1.2.2.2.1), .int .i64 (a1.2.2.2.2.1), .int .i64 (a1.2.2.2.2.2)] 23) fun vw4 =>
  Nw vw4 (.cells #[.int .i64 (b2.1), .int .i64 (b2.2.1), .int .i64 (b2.2.2.1), .int .i64 (b2.2.2.2.1), .int .i64 (b2.2.2.2.2.1), .int .i64 (b2.2.2.2.2.2)] 23) fun vw5 =>
  Nw vw5 (.cells #[.int .i64 (p3.1), .int .i64 (p3.2)] 25) fun vw6 =>
  C13 vw6 fun r9 vw10 =>
    Br (!r9) (R false vw10) (Ld vw10 (⟨w.heap.size, 0, none⟩ : Addr) (Value.int .i64) fun (x31 : Int) =>
      Ld vw10 ((⟨w.heap.size, 0, none⟩ : Addr).add 1) (Value.int .i64) fun (x32 : Int) =>
      Ld vw10 ((⟨w.heap.size, 0, none⟩ : Addr).add 2) (Value.int .i64) fun (x33 : Int) =>
      Ld vw10 ((⟨w.heap.size, 0, none⟩ : Addr).add 3) (Value.int .i64) fun (x34 : Int) =>
      Ld vw10 ((⟨w.heap.size, 0, none⟩ : Addr).add 4) (Value.int .i64) fun (x35 : Int) =>
      Ld vw10 ((⟨w.heap.size, 0, none⟩ : Addr).add 5) (Value.int .i64) fun (x36 : Int) =>
      Ld vw10 (⟨vw4.heap.size, 0, none⟩ : Addr) (Value.int .i64) fun (x37 : Int) =>
      Ld vw10 ((⟨vw4.heap.size, 0, none⟩ : Addr).add 1) (Value.int .i64) fun (x38 : Int) =>
      Ld vw10 ((⟨vw4.heap.size, 0, none⟩ : Addr).add 2) (Value.int .i64) fun (x39 : Int) =>
      Ld vw10 ((⟨vw4.heap.size, 0, none⟩ : Addr).add 3) (Value.int .i64) fun (x40 : Int) =>
      Ld vw10 ((⟨vw4.heap.size, 0, none⟩ : Addr).add 4) (Value.int .i64) fun (x41 : Int) =>
      Ld vw10 ((⟨vw4.heap.size, 0, none⟩ : Addr).add 5) (Value.int .i64) fun (x42 : Int) =>
      Ld vw10 (⟨vw5.heap.size, 0, none⟩ : Addr) (Value.int .i64) fun (x43 : Int) =>
      Ld vw10 ((⟨vw5.heap.size, 0, none⟩ : Addr).add 1) (Value.int .i64) fun (x44 : Int) =>
      Nw vw10 (.cells #[.int .i64 x31, .int .i64 x32, .int .i64 x33, .int .i64 x34, .int .i64 x35, .int .i64 x36, .int .i64 x37, .int .i64 x38, .int .i64 x39, .int .i64 x40, .int .i64 x41, .int .i64 x42, .int .i64 x43, .int .i64 x44] 2) fun vw45 =>
      Lp (σ := Int) (S6L1 w vw4 vw5 vw10 R) 0 vw45)
def pl6 : Plan := (.seq (.reg .seq) (.seq (.seq (.reg .seq) (.cond (.seq (.reg .seq) .leaf) .leaf)) (.seq (.seq (.reg .seq) (.block (.loop [(45, (.one (.int .i64)))] [3, 4, 5, 43, 44] (.seq (.reg .seq) (.seq (.cond .leaf .leaf) (.seq (.block (.seq (.reg .seq) (.seq (.reg .seq) (.cond (.seq (.reg .seq) .leaf) .leaf)))) (.reg .seq))))))) (.seq (.reg .seq) (.seq (.reg .seq) (.seq (.seq (.reg .seq) (.cond (.seq (.reg .seq) .leaf) .leaf)) (.seq (.reg .seq) .leaf)))))))
set_option maxRecDepth 100000 in
theorem T6 (a1 : Int × Int × Int × Int × Int × Int) (b2 : Int × Int × Int × Int × Int × Int) (p3 : Int × Int) (w : World) (R : Bool → World → Prop) (h : S6 a1 b2 p3 w R) : C6 (a1.1, a1.2.1, a1.2.2.1, a1.2.2.2.1, a1.2.2.2.2.1, a1.2.2.2.2.2) (b2.1, b2.2.1, b2.2.2.1, b2.2.2.2.1, b2.2.2.2.2.1, b2.2.2.2.2.2) (p3.1, p3.2) w R := by
  have e : fnT Try.prog ⟨FF, MAY, (fun _ _ => False)⟩ pl6 Try.f6 [.agg #[.int .i64 (a1.1), .int .i64 (a1.2.1), .int .i64 (a1.2.2.1), .int .i64 (a1.2.2.2.1), .int .i64 (a1.2.2.2.2.1), .int .i64 (a1.2.2.2.2.2)], .agg #[.int .i64 (b2.1), .int .i64 (b2.2.1), .int .i64 (b2.2.2.1), .int .i64 (b2.2.2.2.1), .int .i64 (b2.2.2.2.2.1), .int .i64 (b2.2.2.2.2.2)], .agg #[.int .i64 (p3.1), .int .i64 (p3.2)]] w [(.one .bool)] (fun s w => R s w) = S6 a1 b2 p3 w R := by kernel_rfl
  exact (fn_calls okF okM Try.func6 (by kernel_rfl) (by kernel_rfl) (e.mpr h)).mono fun _ _ ⟨s, he, hR⟩ => ⟨s, he, hR⟩

def S7L1 (w : World) (vw23 : World) (vw80 : World) (R : Bool → World → Prop) (I170 : (Bool × Bool × Bool × Bool × Int) → World → Prop) (s168 : Bool × Bool × Bool × Bool × Int) (vw169 : World) : Prop :=
  Br (decide (s168.2.2.2.2 < (((⟨some ⟨vw80.heap.size, 0, none⟩, 4, 4⟩ : Slc).len : Nat) : Int))) (0 ≤ s168.2.2.2.2 ∧ s168.2.2.2.2 < ((⟨some ⟨vw80.heap.size, 0, none⟩, 4, 4⟩ : Slc).len : Nat) ∧ Nn (⟨some ⟨vw80.heap.size, 0, none⟩, 4, 4⟩ : Slc).p fun a171 =>
    Ld vw169 (a171.add ((s168.2.2.2.2).toNat * 2)) (Value.int .i64) fun (x172 : Int) =>
    Ld vw169 ((a171.add ((s168.2.2.2.2).toNat * 2)).add 1) (Value.int .i64) fun (x173 : Int) =>
    Nw vw169 (.cells #[.int .i64 0, .int .i64 0] 25) fun vw174 =>
    St vw174 (⟨vw169.heap.size, 0, none⟩ : Addr) (.int .i64 x172) fun vw175 =>
    St vw175 ((⟨vw169.heap.size, 0, none⟩ : Addr).add 1) (.int .i64 x173) fun vw176 =>
    Ld vw176 (⟨w.heap.size, 0, none⟩ : Addr) (Value.int .i64) fun (x177 : Int) =>
    Ld vw176 ((⟨w.heap.size, 0, none⟩ : Addr).add 1) (Value.int .i64) fun (x178 : Int) =>
    Ld vw176 ((⟨w.heap.size, 0, none⟩ : Addr).add 2) (Value.int .i64) fun (x179 : Int) =>
    Ld vw176 ((⟨w.heap.size, 0, none⟩ : Addr).add 3) (Value.int .i64) fun (x180 : Int) =>
    Ld vw176 ((⟨w.heap.size, 0, none⟩ : Addr).add 4) (Value.int .i64) fun (x181 : Int) =>
    Ld vw176 ((⟨w.heap.size, 0, none⟩ : Addr).add 5) (Value.int .i64) fun (x182 : Int) =>
    Ld vw176 (⟨vw169.heap.size, 0, none⟩ : Addr) (Value.int .i64) fun (x183 : Int) =>
    Ld vw176 ((⟨vw169.heap.size, 0, none⟩ : Addr).add 1) (Value.int .i64) fun (x184 : Int) =>
    C16 (x177, x178, x179, x180, x181, x182) (x183, x184) vw176 fun r185 r186 vw187 =>
      Nw vw187 (.cells #[.int .i64 0, .int .i64 0] 25) fun vw188 =>
      St vw188 (⟨vw187.heap.size, 0, none⟩ : Addr) (.int .i64 (r185.1)) fun vw189 =>
      St vw189 ((⟨vw187.heap.size, 0, none⟩ : Addr).add 1) (.int .i64 (r185.2)) fun vw190 =>
      Br (r186 != 0) (R false vw190) (Ld vw190 (⟨vw187.heap.size, 0, none⟩ : Addr) (Value.int .i64) fun (x191 : Int) =>
        Ld vw190 (⟨vw23.heap.size, 0, none⟩ : Addr) (Value.int .i64) fun (x192 : Int) =>
        Br (decide (x191 < x192)) (R false vw190) (Ld vw190 (⟨vw187.heap.size, 0, none⟩ : Addr) (Value.int .i64) fun (x193 : Int) =>
          Ld vw190 ((⟨vw23.heap.size, 0, none⟩ : Addr).add 2) (Value.int .i64) fun (x194 : Int) =>
          Br (decide (x193 > x194)) (R false vw190) (Ld vw190 ((⟨vw187.heap.size, 0, none⟩ : Addr).add 1) (Value.int .i64) fun (x195 : Int) =>
            Ld vw190 ((⟨vw23.heap.size, 0, none⟩ : Addr).add 1) (Value.int .i64) fun (x196 : Int) =>
            Br (decide (x195 < x196)) (R false vw190) (Ld vw190 ((⟨vw187.heap.size, 0, none⟩ : Addr).add 1) (Value.int .i64) fun (x197 : Int) =>
              Ld vw190 ((⟨vw23.heap.size, 0, none⟩ : Addr).add 3) (Value.int .i64) fun (x198 : Int) =>
              Br (decide (x197 > x198)) (R false vw190) (Br s168.1 (Br s168.2.1 (Br s168.2.2.1 (Br s168.2.2.2.1 (I170 (true, true, true, true, IntKind.i64.wrap (s168.2.2.2.2 + 1)) vw190.drew) (Ld vw190.drew ((⟨vw187.heap.size, 0, none⟩ : Addr).add 1) (Value.int .i64) fun (x199 : Int) =>
                        Ld vw190.drew ((⟨vw23.heap.size, 0, none⟩ : Addr).add 3) (Value.int .i64) fun (x200 : Int) =>
                        I170 (true, true, true, x199 == x200, IntKind.i64.wrap (s168.2.2.2.2 + 1)) vw190.drew)) (Ld vw190.drew ((⟨vw187.heap.size, 0, none⟩ : Addr).add 1) (Value.int .i64) fun (x201 : Int) =>
                      Ld vw190.drew ((⟨vw23.heap.size, 0, none⟩ : Addr).add 1) (Value.int .i64) fun (x202 : Int) =>
                      Br s168.2.2.2.1 (I170 (true, true, x201 == x202, true, IntKind.i64.wrap (s168.2.2.2.2 + 1)) vw190.drew) (Ld vw190.drew ((⟨vw187.heap.size, 0, none⟩ : Addr).add 1) (Value.int .i64) fun (x203 : Int) =>
                        Ld vw190.drew ((⟨vw23.heap.size, 0, none⟩ : Addr).add 3) (Value.int .i64) fun (x204 : Int) =>
                        I170 (true, true, x201 == x202, x203 == x204, IntKind.i64.wrap (s168.2.2.2.2 + 1)) vw190.drew))) (Ld vw190.drew (⟨vw187.heap.size, 0, none⟩ : Addr) (Value.int .i64) fun (x205 : Int) =>
                    Ld vw190.drew ((⟨vw23.heap.size, 0, none⟩ : Addr).add 2) (Value.int .i64) fun (x206 : Int) =>
                    Br s168.2.2.1 (Br s168.2.2.2.1 (I170 (true, x205 == x206, true, true, IntKind.i64.wrap (s168.2.2.2.2 + 1)) vw190.drew) (Ld vw190.drew ((⟨vw187.heap.size, 0, none⟩ : Addr).add 1) (Value.int .i64) fun (x207 : Int) =>
                        Ld vw190.drew ((⟨vw23.heap.size, 0, none⟩ : Addr).add 3) (Value.int .i64) fun (x208 : Int) =>
                        I170 (true, x205 == x206, true, x207 == x208, IntKind.i64.wrap (s168.2.2.2.2 + 1)) vw190.drew)) (Ld vw190.drew ((⟨vw187.heap.size, 0, none⟩ : Addr).add 1) (Value.int .i64) fun (x209 : Int) =>
                      Ld vw190.drew ((⟨vw23.heap.size, 0, none⟩ : Addr).add 1) (Value.int .i64) fun (x210 : Int) =>
                      Br s168.2.2.2.1 (I170 (true, x205 == x206, x209 == x210, true, IntKind.i64.wrap (s168.2.2.2.2 + 1)) vw190.drew) (Ld vw190.drew ((⟨vw187.heap.size, 0, none⟩ : Addr).add 1) (Value.int .i64) fun (x211 : Int) =>
                        Ld vw190.drew ((⟨vw23.heap.size, 0, none⟩ : Addr).add 3) (Value.int .i64) fun (x212 : Int) =>
                        I170 (true, x205 == x206, x209 == x210, x211 == x212, IntKind.i64.wrap (s168.2.2.2.2 + 1)) vw190.drew)))) (Ld vw190.drew (⟨vw187.heap.size, 0, none⟩ : Addr) (Value.int .i64) fun (x213 : Int) =>
                  Ld vw190.drew (⟨vw23.heap.size, 0, none⟩ : Addr) (Value.int .i64) fun (x214 : Int) =>
                  Br s168.2.1 (Br s168.2.2.1 (Br s168.2.2.2.1 (I170 (x213 == x214, true, true, true, IntKind.i64.wrap (s168.2.2.2.2 + 1)) vw190.drew) (Ld vw190.drew ((⟨vw187.heap.size, 0, none⟩ : Addr).add 1) (Value.int .i64) fun (x215 : Int) =>
                        Ld vw190.drew ((⟨vw23.heap.size, 0, none⟩ : Addr).add 3) (Value.int .i64) fun (x216 : Int) =>
                        I170 (x213 == x214, true, true, x215 == x216, IntKind.i64.wrap (s168.2.2.2.2 + 1)) vw190.drew)) (Ld vw190.drew ((⟨vw187.heap.size, 0, none⟩ : Addr).add 1) (Value.int .i64) fun (x217 : Int) =>
                      Ld vw190.drew ((⟨vw23.heap.size, 0, none⟩ : Addr).add 1) (Value.int .i64) fun (x218 : Int) =>
                      Br s168.2.2.2.1 (I170 (x213 == x214, true, x217 == x218, true, IntKind.i64.wrap (s168.2.2.2.2 + 1)) vw190.drew) (Ld vw190.drew ((⟨vw187.heap.size, 0, none⟩ : Addr).add 1) (Value.int .i64) fun (x219 : Int) =>
                        Ld vw190.drew ((⟨vw23.heap.size, 0, none⟩ : Addr).add 3) (Value.int .i64) fun (x220 : Int) =>
                        I170 (x213 == x214, true, x217 == x218, x219 == x220, IntKind.i64.wrap (s168.2.2.2.2 + 1)) vw190.drew))) (Ld vw190.drew (⟨vw187.heap.size, 0, none⟩ : Addr) (Value.int .i64) fun (x221 : Int) =>
                    Ld vw190.drew ((⟨vw23.heap.size, 0, none⟩ : Addr).add 2) (Value.int .i64) fun (x222 : Int) =>
                    Br s168.2.2.1 (Br s168.2.2.2.1 (I170 (x213 == x214, x221 == x222, true, true, IntKind.i64.wrap (s168.2.2.2.2 + 1)) vw190.drew) (Ld vw190.drew ((⟨vw187.heap.size, 0, none⟩ : Addr).add 1) (Value.int .i64) fun (x223 : Int) =>
                        Ld vw190.drew ((⟨vw23.heap.size, 0, none⟩ : Addr).add 3) (Value.int .i64) fun (x224 : Int) =>
                        I170 (x213 == x214, x221 == x222, true, x223 == x224, IntKind.i64.wrap (s168.2.2.2.2 + 1)) vw190.drew)) (Ld vw190.drew ((⟨vw187.heap.size, 0, none⟩ : Addr).add 1) (Value.int .i64) fun (x225 : Int) =>
                      Ld vw190.drew ((⟨vw23.heap.size, 0, none⟩ : Addr).add 1) (Value.int .i64) fun (x226 : Int) =>
                      Br s168.2.2.2.1 (I170 (x213 == x214, x221 == x222, x225 == x226, true, IntKind.i64.wrap (s168.2.2.2.2 + 1)) vw190.drew) (Ld vw190.drew ((⟨vw187.heap.size, 0, none⟩ : Addr).add 1) (Value.int .i64) fun (x227 : Int) =>
                        Ld vw190.drew ((⟨vw23.heap.size, 0, none⟩ : Addr).add 3) (Value.int .i64) fun (x228 : Int) =>
                        I170 (x213 == x214, x221 == x222, x225 == x226, x227 == x228, IntKind.i64.wrap (s168.2.2.2.2 + 1)) vw190.drew)))))))))) (Br s168.1 (Br s168.2.1 (Br s168.2.2.1 (R s168.2.2.2.1 vw169) (R false vw169)) (R false vw169)) (R false vw169))
def S7J1 (w : World) (vw4 : World) (r22 : Int) (vw23 : World) (R : Bool → World → Prop) (s79 : Unit) (vw80 : World) : Prop :=
  Br (r22 != 0) (R true vw80) (Ld vw80 (⟨vw4.heap.size, 0, none⟩ : Addr) (Value.int .i64) fun (x159 : Int) =>
    Ld vw80 ((⟨vw4.heap.size, 0, none⟩ : Addr).add 1) (Value.int .i64) fun (x160 : Int) =>
    Ld vw80 ((⟨vw4.heap.size, 0, none⟩ : Addr).add 2) (Value.int .i64) fun (x161 : Int) =>
    Ld vw80 ((⟨vw4.heap.size, 0, none⟩ : Addr).add 1) (Value.int .i64) fun (x162 : Int) =>
    Ld vw80 (⟨vw4.heap.size, 0, none⟩ : Addr) (Value.int .i64) fun (x163 : Int) =>
    Ld vw80 ((⟨vw4.heap.size, 0, none⟩ : Addr).add 3) (Value.int .i64) fun (x164 : Int) =>
    Ld vw80 ((⟨vw4.heap.size, 0, none⟩ : Addr).add 2) (Value.int .i64) fun (x165 : Int) =>
    Ld vw80 ((⟨vw4.heap.size, 0, none⟩ : Addr).add 3) (Value.int .i64) fun (x166 : Int) =>
    Nw vw80 (.cells #[.int .i64 x159, .int .i64 x160, .int .i64 x161, .int .i64 x162, .int .i64 x163, .int .i64 x164, .int .i64 x165, .int .i64 x166] 25) fun vw167 =>
    Lp (σ := Bool × Bool × Bool × Bool × Int) (S7L1 w vw23 vw80 R) (false, false, false, false, 0) vw167)
/-- foliant/foliantlaw42.MatrixBounds -/
def S7 (m1 : Int × Int × Int × Int × Int × Int) (r2 : Int × Int × Int × Int) (p3 : Int × Int) (w : World) (R : Bool → World → Prop) : Prop :=
  Nw w (.cells #[.int .i64 (m1.1), .int .i64 (m1.2.1), .int .i64 (m1.2.2.1), .int .i64 (m1.2.2.2.1), .int .i64 (m1.2.2.2.2.1), .int .i64 (m1.2.2.2.2.2)] 23) fun vw4 =>
  Nw vw4 (.cells #[.int .i64 (r2.1), .int .i64 (r2.2.1), .int .i64 (r2.2.2.1), .int .i64 (r2.2.2.2)] 27) fun vw5 =>
  Nw vw5 (.cells #[.int .i64 (p3.1), .int .i64 (p3.2)] 25) fun vw6 =>
  C13 vw6 fun r9 vw10 =>
    Br (!r9) (R false vw10) (Ld vw10 (⟨w.heap.size, 0, none⟩ : Addr) (Value.int .i64) fun (x11 : Int) =>
      Ld vw10 ((⟨w.heap.size, 0, none⟩ : Addr).add 1) (Value.int .i64) fun (x12 : Int) =>
      Ld vw10 ((⟨w.heap.size, 0, none⟩ : Addr).add 2) (Value.int .i64) fun (x13 : Int) =>
      Ld vw10 ((⟨w.heap.size, 0, none⟩ : Addr).add 3) (Value.int .i64) fun (x14 : Int) =>
      Ld vw10 ((⟨w.heap.size, 0, none⟩ : Addr).add 4) (Value.int .i64) fun (x15 : Int) =>
      Ld vw10 ((⟨w.heap.size, 0, none⟩ : Addr).add 5) (Value.int .i64) fun (x16 : Int) =>
      Ld vw10 (⟨vw4.heap.size, 0, none⟩ : Addr) (Value.int .i64) fun (x17 : Int) =>
      Ld vw10 ((⟨vw4.heap.size, 0, none⟩ : Addr).add 1) (Value.int .i64) fun (x18 : Int) =>
      Ld vw10 ((⟨vw4.heap.size, 0, none⟩ : Addr).add 2) (Value.int .i64) fun (x19 : Int) =>
      Ld vw10 ((⟨vw4.heap.size, 0, none⟩ : Addr).add 3) (Value.int .i64) fun (x20 : Int) =>
      C20 (x11, x12, x13, x14, x15, x16) (x17, x18, x19, x20) vw10 fun r21 r22 vw23 =>
        Nw vw23 (.cells #[.int .i64 0, .int .i64 0, .int .i64 0, .int .i64 0] 27) fun vw24 =>
        St vw24 (⟨vw23.heap.size, 0, none⟩ : Addr) (.int .i64 (r21.1)) fun vw25 =>
        St vw25 ((⟨vw23.heap.size, 0, none⟩ : Addr).add 1) (.int .i64 (r21.2.1)) fun vw26 =>
        St vw26 ((⟨vw23.heap.size, 0, none⟩ : Addr).add 2) (.int .i64 (r21.2.2.1)) fun vw27 =>
        St vw27 ((⟨vw23.heap.size, 0, none⟩ : Addr).add 3) (.int .i64 (r21.2.2.2)) fun vw28 =>
        Ld vw28 (⟨w.heap.size, 0, none⟩ : Addr) (Value.int .i64) fun (x29 : Int) =>
        Ld vw28 ((⟨w.heap.size, 0, none⟩ : Addr).add 1) (Value.int .i64) fun (x30 : Int) =>
        Ld vw28 ((⟨w.heap.size, 0, none⟩ : Addr).add 2) (Value.int .i64) fun (x31 : Int) =>
        Ld vw28 ((⟨w.heap.size, 0, none⟩ : Addr).add 3) (Value.int .i64) fun (x32 : Int) =>
        Ld vw28 ((⟨w.heap.size, 0, none⟩ : Addr).add 4) (Value.int .i64) fun (x33 : Int) =>
        Ld vw28 ((⟨w.heap.size, 0, none⟩ : Addr).add 5) (Value.int .i64) fun (x34 : Int) =>
        Ld vw28 (⟨vw5.heap.size, 0, none⟩ : Addr) (Value.int .i64) fun (x35 : Int) =>
        Ld vw28 ((⟨vw5.heap.size, 0, none⟩ : Addr).add 1) (Value.int .i64) fun (x36 : Int) =>
        C18 (x29, x30, x31, x32, x33, x34) (x35, x36) vw28 fun r37 r38 vw39 =>
          Ld vw39 (⟨w.heap.size, 0, none⟩ : Addr) (Value.int .i64) fun (x40 : Int) =>
          Ld vw39 ((⟨w.heap.size, 0, none⟩ : Addr).add 1) (Value.int .i64) fun (x41 : Int) =>
          Ld vw39 ((⟨w.heap.size, 0, none⟩ : Addr).add 2) (Value.int .i64) fun (x42 : Int) =>
          Ld vw39 ((⟨w.heap.size, 0, none⟩ : Addr).add 3) (Value.int .i64) fun (x43 : Int) =>
          Ld vw39 ((⟨w.heap.size, 0, none⟩ : Addr).add 4) (Value.int .i64) fun (x44 : Int) =>
          Ld vw39 ((⟨w.heap.size, 0, none⟩ : Addr).add 5) (Value.int .i64) fun (x45 : Int) =>
          Nw vw39 (.cells #[.int .i64 0, .int .i64 0, .int .i64 0, .int .i64 0, .int .i64 0, .int .i64 0] 23) fun vw46 =>
          St vw46 (⟨vw39.heap.size, 0, none⟩ : Addr) (.int .i64 x40) fun vw47 =>
          St vw47 ((⟨vw39.heap.size, 0, none⟩ : Addr).add 1) (.int .i64 x41) fun vw48 =>
          St vw48 ((⟨vw39.heap.size, 0, none⟩ : Addr).add 2) (.int .i64 x42) fun vw49 =>
          St vw49 ((⟨vw39.heap.size, 0, none⟩ : Addr).add 3) (.int .i64 x43) fun vw50 =>
          St vw50 ((⟨vw39.heap.size, 0, none⟩ : Addr).add 4) (.int .i64 x44) fun vw51 =>
          St vw51 ((⟨vw39.heap.size, 0, none⟩ : Addr).add 5) (.int .i64 x45) fun vw52 =>
          St vw52 ((⟨vw39.heap.size, 0, none⟩ : Addr).add 4) (.int .i64 0) fun vw53 =>
          St vw53 ((⟨vw39.heap.size, 0, none⟩ : Addr).add 5) (.int .i64 0) fun vw54 =>
          Ld vw54 (⟨vw39.heap.size, 0, none⟩ : Addr) (Value.int .i64) fun (x55 : Int) =>
          Ld vw54 ((⟨vw39.heap.size, 0, none⟩ : Addr).add 1) (Value.int .i64) fun (x56 : Int) =>
          Ld vw54 ((⟨vw39.heap.size, 0, none⟩ : Addr).add 2) (Value.int .i64) fun (x57 : Int) =>
          Ld vw54 ((⟨vw39.heap.size, 0, none⟩ : Addr).add 3) (Value.int .i64) fun (x58 : Int) =>
          Ld vw54 ((⟨vw39.heap.size, 0, none⟩ : Addr).add 4) (Value.int .i64) fun (x59 : Int) =>
          Ld vw54 ((⟨vw39.heap.size, 0, none⟩ : Addr).add 5) (Value.int .i64) fun (x60 : Int) =>
          Ld vw54 (⟨vw5.heap.size, 0, none⟩ : Addr) (Value.int .i64) fun (x61 : Int) =>
          Ld vw54 ((⟨vw5.heap.size, 0, none⟩ : Addr).add 1) (Value.int .i64) fun (x62 : Int) =>
          C16 (x55, x56, x57, x58, x59, x60) (x61, x62) vw54 fun r63 r64 vw65 =>
            Nw vw65 (.cells #[.int .i64 0, .int .i64 0] 25) fun vw66 =>
            St vw66 (⟨vw65.heap.size, 0, none⟩ : Addr) (.int .i64 (r63.1)) fun vw67 =>
            St vw67 ((⟨vw65.heap.size, 0, none⟩ : Addr).add 1) (.int .i64 (r63.2)) fun vw68 =>
            Join (S7J1 w vw4 r22 vw23 R) fun (vJ229 : Unit → World → Prop) =>
              Br (r38 == 0) (Br (r64 != 0) (R false vw68) (Br (decide (r37 < 0)) (R false vw68) (Ld vw68 (⟨vw65.heap.size, 0, none⟩ : Addr) (Value.int .i64) fun (x230 : Int) =>
                    Ld vw68 (⟨vw65.heap.size, 0, none⟩ : Addr) (Value.int .i64) fun (x231 : Int) =>
                    Ld vw68 ((⟨vw65.heap.size, 0, none⟩ : Addr).add 1) (Value.int .i64) fun (x232 : Int) =>
                    Ld vw68 ((⟨vw65.heap.size, 0, none⟩ : Addr).add 1) (Value.int .i64) fun (x233 : Int) =>
                    Lt (decide ((IntKind.i64.wrap (r37 * r37)) > (IntKind.i64.wrap ((IntKind.i64.wrap (x230 * x231)) + (IntKind.i64.wrap (x232 * x233)))))) fun (x234 : Bool) =>
                    Br x234 (R false vw68) (Ld vw68 (⟨vw65.heap.size, 0, none⟩ : Addr) (Value.int .i64) fun (x235 : Int) =>
                      Ld vw68 (⟨vw65.heap.size, 0, none⟩ : Addr) (Value.int .i64) fun (x236 : Int) =>
                      Ld vw68 ((⟨vw65.heap.size, 0, none⟩ : Addr).add 1) (Value.int .i64) fun (x237 : Int) =>
                      Ld vw68 ((⟨vw65.heap.size, 0, none⟩ : Addr).add 1) (Value.int .i64) fun (x238 : Int) =>
                      Lt (decide ((IntKind.i64.wrap ((IntKind.i64.wrap (r37 + 1)) * (IntKind.i64.wrap (r37 + 1)))) ≤ (IntKind.i64.wrap ((IntKind.i64.wrap (x235 * x236)) + (IntKind.i64.wrap (x237 * x238)))))) fun (x239 : Bool) =>
                      Br x239 (R false vw68) (vJ229 () vw68))))) (vJ229 () vw68))
def pl7 : Plan := (.seq (.reg .seq) (.seq (.seq (.reg .seq) (.cond (.seq (.reg .seq) .leaf) .leaf)) (.seq (.reg .seq) (.seq (.reg .seq) (.seq (.reg .seq) (.seq (.reg .seq) (.seq (.reg .seq) (.join [] [3, 4, 7, 8] (.seq (.reg .seq) (.cond (.seq (.reg .seq) .leaf) .leaf)) (.seq (.seq (.reg .seq) (.cond (.seq (.reg .seq) .leaf) .leaf)) (.seq (.reg .seq) (.seq (.seq (.reg .seq) (.block (.loop [(14, (.one .bool)), (15, (.one .bool)), (16, (.one .bool)), (17, (.one .bool)), (115, (.one (.int .i64)))] [3, 7, 113, 114] (.seq (.reg .seq) (.seq (.cond .leaf .leaf) (.seq (.block (.seq (.reg .seq) (.seq (.reg .seq) (.seq (.seq (.reg .seq) (.cond (.seq (.reg .seq) .leaf) .leaf)) (.reg .still))))) (.reg .seq))))))) (.seq (.reg .seq) .leaf))))))))))))
set_option maxRecDepth 100000 in
theorem T7 (m1 : Int × Int × Int × Int × Int × Int) (r2 : Int × Int × Int × Int) (p3 : Int × Int) (w : World) (R : Bool → World → Prop) (h : S7 m1 r2 p3 w R) : C7 (m1.1, m1.2.1, m1.2.2.1, m1.2.2.2.1, m1.2.2.2.2.1, m1.2.2.2.2.2) (r2.1, r2.2.1, r2.2.2.1, r2.2.2.2) (p3.1, p3.2) w R := by
  have e : fnT Try.prog ⟨FF, MAY, (fun _ _ => False)⟩ pl7 Try.f7 [.agg #[.int .i64 (m1.1), .int .i64 (m1.2.1), .int .i64 (m1.2.2.1), .int .i64 (m1.2.2.2.1), .int .i64 (m1.2.2.2.2.1), .int .i64 (m1.2.2.2.2.2)], .agg #[.int .i64 (r2.1), .int .i64 (r2.2.1), .int .i64 (r2.2.2.1), .int .i64 (r2.2.2.2)], .agg #[.int .i64 (p3.1), .int .i64 (p3.2)]] w [(.one .bool)] (fun s w => R s w) = S7 m1 r2 p3 w R := by kernel_rfl
  exact (fn_calls okF okM Try.func7 (by kernel_rfl) (by kernel_rfl) (e.mpr h)).mono fun _ _ ⟨s, he, hR⟩ => ⟨s, he, hR⟩

end Go.Proofs.Ytjlaijhmnlkpiaa
