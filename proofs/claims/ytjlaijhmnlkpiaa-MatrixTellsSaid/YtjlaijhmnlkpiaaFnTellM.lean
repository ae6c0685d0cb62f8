/- The formulas of 1 functions of the program, written by program (gen.py); the kernel checks each. No condition. -/
import Derived.Test.YtjlaijhmnlkpiaaFn
import Derived.Test.YtjlaijhmnlkpiaaFnFix
import Derived.Test.YtjlaijhmnlkpiaaFnMat
import Derived.Test.YtjlaijhmnlkpiaaFnObj
import Derived.Test.YtjlaijhmnlkpiaaFnLawM
namespace Go.Proofs.Ytjlaijhmnlkpiaa
open Sh
set_option linter.unusedVariables false

def C3 (a1 : Int × Int × Int × Int × Int × Int) (b2 : Int × Int × Int × Int × Int × Int) (p3 : Int × Int) (r4 : Int × Int × Int × Int) (o5 : Int × Int × Int × ByteArray × Slc × Slc) (w : World) (R : Bool → World → Prop) : Prop :=
  Calls Try.prog 3 #[.agg #[.int .i64 (a1.1), .int .i64 (a1.2.1), .int .i64 (a1.2.2.1), .int .i64 (a1.2.2.2.1), .int .i64 (a1.2.2.2.2.1), .int .i64 (a1.2.2.2.2.2)], .agg #[.int .i64 (b2.1), .int .i64 (b2.2.1), .int .i64 (b2.2.2.1), .int .i64 (b2.2.2.2.1), .int .i64 (b2.2.2.2.2.1), .int .i64 (b2.2.2.2.2.2)], .agg #[.int .i64 (p3.1), .int .i64 (p3.2)], .agg #[.int .i64 (r4.1), .int .i64 (r4.2.1), .int .i64 (r4.2.2.1), .int .i64 (r4.2.2.2)], .agg #[.int .i64 (o5.1), .int .i64 (o5.2.1), .int .i64 (o5.2.2.1), .string o5.2.2.2.1, Slc.v o5.2.2.2.2.1, Slc.v o5.2.2.2.2.2]] w fun e w' => ∃ r0 : Bool, e = .returned (.bool r0) ∧ R r0 w'
theorem C3.mono {a1 : Int × Int × Int × Int × Int × Int} {b2 : Int × Int × Int × Int × Int × Int} {p3 : Int × Int} {r4 : Int × Int × Int × Int} {o5 : Int × Int × Int × ByteArray × Slc × Slc} {w : World} {R R' : Bool → World → Prop} (h : C3 a1 b2 p3 r4 o5 w R) (hr : ∀ r0 w', R r0 w' → R' r0 w') : C3 a1 b2 p3 r4 o5 w R' :=
  Calls.mono h fun _ _ ⟨r0, he, hR⟩ => ⟨r0, he, hr _ _ hR⟩

set_option maxRecDepth 100000 in
/-- foliant/foliantlaw42.MatrixTells -/
def S3 (a1 : Int × Int × Int × Int × Int × Int) (b2 : Int × Int × Int × Int × Int × Int) (p3 : Int × Int) (r4 : Int × Int × Int × Int) (o5 : Int × Int × Int × ByteArray × Slc × Slc) (w : World) (R : Bool → World → Prop) : Prop :=
  Nw w (.cells #[.int .i64 (a1.1), .int .i64 (a1.2.1), .int .i64 (a1.2.2.1), .int .i64 (a1.2.2.2.1), .int .i64 (a1.2.2.2.2.1), .int .i64 (a1.2.2.2.2.2)] 23) fun vw6 =>
  Nw vw6 (.cells #[.int .i64 (b2.1), .int .i64 (b2.2.1), .int .i64 (b2.2.2.1), .int .i64 (b2.2.2.2.1), .int .i64 (b2.2.2.2.2.1), .int .i64 (b2.2.2.2.2.2)] 23) fun vw7 =>
  Nw vw7 (.cells #[.int .i64 (p3.1), .int .i64 (p3.2)] 25) fun vw8 =>
  Nw vw8 (.cells #[.int .i64 (r4.1), .int .i64 (r4.2.1), .int .i64 (r4.2.2.1), .int .i64 (r4.2.2.2)] 27) fun vw9 =>
  Nw vw9 (.cells #[.int .i64 (o5.1), .int .i64 (o5.2.1), .int .i64 (o5.2.2.1), .string o5.2.2.2.1, Slc.v o5.2.2.2.2.1, Slc.v o5.2.2.2.2.2] 31) fun vw10 =>
  Ld vw10 (⟨vw9.heap.size, 0, none⟩ : Addr) (Value.int .i64) fun (x21 : Int) =>
  Ld vw10 ((⟨vw9.heap.size, 0, none⟩ : Addr).add 1) (Value.int .i64) fun (x22 : Int) =>
  Ld vw10 ((⟨vw9.heap.size, 0, none⟩ : Addr).add 2) (Value.int .i64) fun (x23 : Int) =>
  Ld vw10 ((⟨vw9.heap.size, 0, none⟩ : Addr).add 3) Value.string fun (x24 : ByteArray) =>
  Ld vw10 ((⟨vw9.heap.size, 0, none⟩ : Addr).add 4) Slc.v fun (x25 : Slc) =>
  Ld vw10 ((⟨vw9.heap.size, 0, none⟩ : Addr).add 5) Slc.v fun (x26 : Slc) =>
  C12 (x21, x22, x23, x24, x25, x26) vw10 fun r27 vw28 =>
    Br (decide (r27 > 300)) (C13 vw28 fun r29 vw30 =>
        R r29 vw30) (Ld vw28 (⟨w.heap.size, 0, none⟩ : Addr) (Value.int .i64) fun (x31 : Int) =>
      Ld vw28 ((⟨w.heap.size, 0, none⟩ : Addr).add 1) (Value.int .i64) fun (x32 : Int) =>
      Ld vw28 ((⟨w.heap.size, 0, none⟩ : Addr).add 2) (Value.int .i64) fun (x33 : Int) =>
      Ld vw28 ((⟨w.heap.size, 0, none⟩ : Addr).add 3) (Value.int .i64) fun (x34 : Int) =>
      Ld vw28 ((⟨w.heap.size, 0, none⟩ : Addr).add 4) (Value.int .i64) fun (x35 : Int) =>
      Ld vw28 ((⟨w.heap.size, 0, none⟩ : Addr).add 5) (Value.int .i64) fun (x36 : Int) =>
      Ld vw28 (⟨vw6.heap.size, 0, none⟩ : Addr) (Value.int .i64) fun (x37 : Int) =>
      Ld vw28 ((⟨vw6.heap.size, 0, none⟩ : Addr).add 1) (Value.int .i64) fun (x38 : Int) =>
      Ld vw28 ((⟨vw6.heap.size, 0, none⟩ : Addr).add 2) (Value.int .i64) fun (x39 : Int) =>
      Ld vw28 ((⟨vw6.heap.size, 0, none⟩ : Addr).add 3) (Value.int .i64) fun (x40 : Int) =>
      Ld vw28 ((⟨vw6.heap.size, 0, none⟩ : Addr).add 4) (Value.int .i64) fun (x41 : Int) =>
      Ld vw28 ((⟨vw6.heap.size, 0, none⟩ : Addr).add 5) (Value.int .i64) fun (x42 : Int) =>
      C14 (x31, x32, x33, x34, x35, x36) (x37, x38, x39, x40, x41, x42) vw28 fun r43 r44 vw45 =>
        Nw vw45 (.cells #[.int .i64 0, .int .i64 0, .int .i64 0, .int .i64 0, .int .i64 0, .int .i64 0] 23) fun vw46 =>
        St vw46 (⟨vw45.heap.size, 0, none⟩ : Addr) (.int .i64 (r43.1)) fun vw47 =>
        St vw47 ((⟨vw45.heap.size, 0, none⟩ : Addr).add 1) (.int .i64 (r43.2.1)) fun vw48 =>
        St vw48 ((⟨vw45.heap.size, 0, none⟩ : Addr).add 2) (.int .i64 (r43.2.2.1)) fun vw49 =>
        St vw49 ((⟨vw45.heap.size, 0, none⟩ : Addr).add 3) (.int .i64 (r43.2.2.2.1)) fun vw50 =>
        St vw50 ((⟨vw45.heap.size, 0, none⟩ : Addr).add 4) (.int .i64 (r43.2.2.2.2.1)) fun vw51 =>
        St vw51 ((⟨vw45.heap.size, 0, none⟩ : Addr).add 5) (.int .i64 (r43.2.2.2.2.2)) fun vw52 =>
        Ld vw52 (⟨w.heap.size, 0, none⟩ : Addr) (Value.int .i64) fun (x53 : Int) =>
        Ld vw52 ((⟨w.heap.size, 0, none⟩ : Addr).add 1) (Value.int .i64) fun (x54 : Int) =>
        Ld vw52 ((⟨w.heap.size, 0, none⟩ : Addr).add 2) (Value.int .i64) fun (x55 : Int) =>
        Ld vw52 ((⟨w.heap.size, 0, none⟩ : Addr).add 3) (Value.int .i64) fun (x56 : Int) =>
        Ld vw52 ((⟨w.heap.size, 0, none⟩ : Addr).add 4) (Value.int .i64) fun (x57 : Int) =>
        Ld vw52 ((⟨w.heap.size, 0, none⟩ : Addr).add 5) (Value.int .i64) fun (x58 : Int) =>
        Ld vw52 (⟨vw6.heap.size, 0, none⟩ : Addr) (Value.int .i64) fun (x59 : Int) =>
        Ld vw52 ((⟨vw6.heap.size, 0, none⟩ : Addr).add 1) (Value.int .i64) fun (x60 : Int) =>
        Ld vw52 ((⟨vw6.heap.size, 0, none⟩ : Addr).add 2) (Value.int .i64) fun (x61 : Int) =>
        Ld vw52 ((⟨vw6.heap.size, 0, none⟩ : Addr).add 3) (Value.int .i64) fun (x62 : Int) =>
        Ld vw52 ((⟨vw6.heap.size, 0, none⟩ : Addr).add 4) (Value.int .i64) fun (x63 : Int) =>
        Ld vw52 ((⟨vw6.heap.size, 0, none⟩ : Addr).add 5) (Value.int .i64) fun (x64 : Int) =>
        C15 (x53, x54, x55, x56, x57, x58) (x59, x60, x61, x62, x63, x64) vw52 fun r65 r66 vw67 =>
          Nw vw67 (.cells #[.int .i64 0, .int .i64 0, .int .i64 0, .int .i64 0, .int .i64 0, .int .i64 0] 23) fun vw68 =>
          St vw68 (⟨vw67.heap.size, 0, none⟩ : Addr) (.int .i64 (r65.1)) fun vw69 =>
          St vw69 ((⟨vw67.heap.size, 0, none⟩ : Addr).add 1) (.int .i64 (r65.2.1)) fun vw70 =>
          St vw70 ((⟨vw67.heap.size, 0, none⟩ : Addr).add 2) (.int .i64 (r65.2.2.1)) fun vw71 =>
          St vw71 ((⟨vw67.heap.size, 0, none⟩ : Addr).add 3) (.int .i64 (r65.2.2.2.1)) fun vw72 =>
          St vw72 ((⟨vw67.heap.size, 0, none⟩ : Addr).add 4) (.int .i64 (r65.2.2.2.2.1)) fun vw73 =>
          St vw73 ((⟨vw67.heap.size, 0, none⟩ : Addr).add 5) (.int .i64 (r65.2.2.2.2.2)) fun vw74 =>
          Ld vw74 (⟨w.heap.size, 0, none⟩ : Addr) (Value.int .i64) fun (x75 : Int) =>
          Ld vw74 ((⟨w.heap.size, 0, none⟩ : Addr).add 1) (Value.int .i64) fun (x76 : Int) =>
          Ld vw74 ((⟨w.heap.size, 0, none⟩ : Addr).add 2) (Value.int .i64) fun (x77 : Int) =>
          Ld vw74 ((⟨w.heap.size, 0, none⟩ : Addr).add 3) (Value.int .i64) fun (x78 : Int) =>
          Ld vw74 ((⟨w.heap.size, 0, none⟩ : Addr).add 4) (Value.int .i64) fun (x79 : Int) =>
          Ld vw74 ((⟨w.heap.size, 0, none⟩ : Addr).add 5) (Value.int .i64) fun (x80 : Int) =>
          Ld vw74 (⟨vw7.heap.size, 0, none⟩ : Addr) (Value.int .i64) fun (x81 : Int) =>
          Ld vw74 ((⟨vw7.heap.size, 0, none⟩ : Addr).add 1) (Value.int .i64) fun (x82 : Int) =>
          C16 (x75, x76, x77, x78, x79, x80) (x81, x82) vw74 fun r83 r84 vw85 =>
            Nw vw85 (.cells #[.int .i64 0, .int .i64 0] 25) fun vw86 =>
            St vw86 (⟨vw85.heap.size, 0, none⟩ : Addr) (.int .i64 (r83.1)) fun vw87 =>
            St vw87 ((⟨vw85.heap.size, 0, none⟩ : Addr).add 1) (.int .i64 (r83.2)) fun vw88 =>
            Ld vw88 (⟨w.heap.size, 0, none⟩ : Addr) (Value.int .i64) fun (x89 : Int) =>
            Ld vw88 ((⟨w.heap.size, 0, none⟩ : Addr).add 1) (Value.int .i64) fun (x90 : Int) =>
            Ld vw88 ((⟨w.heap.size, 0, none⟩ : Addr).add 2) (Value.int .i64) fun (x91 : Int) =>
            Ld vw88 ((⟨w.heap.size, 0, none⟩ : Addr).add 3) (Value.int .i64) fun (x92 : Int) =>
            Ld vw88 ((⟨w.heap.size, 0, none⟩ : Addr).add 4) (Value.int .i64) fun (x93 : Int) =>
            Ld vw88 ((⟨w.heap.size, 0, none⟩ : Addr).add 5) (Value.int .i64) fun (x94 : Int) =>
            Ld vw88 (⟨vw7.heap.size, 0, none⟩ : Addr) (Value.int .i64) fun (x95 : Int) =>
            Ld vw88 ((⟨vw7.heap.size, 0, none⟩ : Addr).add 1) (Value.int .i64) fun (x96 : Int) =>
            C17 (x89, x90, x91, x92, x93, x94) (x95, x96) vw88 fun r97 r98 vw99 =>
              Nw vw99 (.cells #[.int .i64 0, .int .i64 0] 25) fun vw100 =>
              St vw100 (⟨vw99.heap.size, 0, none⟩ : Addr) (.int .i64 (r97.1)) fun vw101 =>
              St vw101 ((⟨vw99.heap.size, 0, none⟩ : Addr).add 1) (.int .i64 (r97.2)) fun vw102 =>
              Ld vw102 (⟨w.heap.size, 0, none⟩ : Addr) (Value.int .i64) fun (x103 : Int) =>
              Ld vw102 ((⟨w.heap.size, 0, none⟩ : Addr).add 1) (Value.int .i64) fun (x104 : Int) =>
              Ld vw102 ((⟨w.heap.size, 0, none⟩ : Addr).add 2) (Value.int .i64) fun (x105 : Int) =>
              Ld vw102 ((⟨w.heap.size, 0, none⟩ : Addr).add 3) (Value.int .i64) fun (x106 : Int) =>
              Ld vw102 ((⟨w.heap.size, 0, none⟩ : Addr).add 4) (Value.int .i64) fun (x107 : Int) =>
              Ld vw102 ((⟨w.heap.size, 0, none⟩ : Addr).add 5) (Value.int .i64) fun (x108 : Int) =>
              Ld vw102 (⟨vw7.heap.size, 0, none⟩ : Addr) (Value.int .i64) fun (x109 : Int) =>
              Ld vw102 ((⟨vw7.heap.size, 0, none⟩ : Addr).add 1) (Value.int .i64) fun (x110 : Int) =>
              C18 (x103, x104, x105, x106, x107, x108) (x109, x110) vw102 fun r111 r112 vw113 =>
                Ld vw113 (⟨w.heap.size, 0, none⟩ : Addr) (Value.int .i64) fun (x114 : Int) =>
                Ld vw113 ((⟨w.heap.size, 0, none⟩ : Addr).add 1) (Value.int .i64) fun (x115 : Int) =>
                Ld vw113 ((⟨w.heap.size, 0, none⟩ : Addr).add 2) (Value.int .i64) fun (x116 : Int) =>
                Ld vw113 ((⟨w.heap.size, 0, none⟩ : Addr).add 3) (Value.int .i64) fun (x117 : Int) =>
                Ld vw113 ((⟨w.heap.size, 0, none⟩ : Addr).add 4) (Value.int .i64) fun (x118 : Int) =>
                Ld vw113 ((⟨w.heap.size, 0, none⟩ : Addr).add 5) (Value.int .i64) fun (x119 : Int) =>
                Ld vw113 (⟨vw7.heap.size, 0, none⟩ : Addr) (Value.int .i64) fun (x120 : Int) =>
                Ld vw113 ((⟨vw7.heap.size, 0, none⟩ : Addr).add 1) (Value.int .i64) fun (x121 : Int) =>
                C19 (x114, x115, x116, x117, x118, x119) (x120, x121) vw113 fun r122 r123 vw124 =>
                  Ld vw124 (⟨w.heap.size, 0, none⟩ : Addr) (Value.int .i64) fun (x125 : Int) =>
                  Ld vw124 ((⟨w.heap.size, 0, none⟩ : Addr).add 1) (Value.int .i64) fun (x126 : Int) =>
                  Ld vw124 ((⟨w.heap.size, 0, none⟩ : Addr).add 2) (Value.int .i64) fun (x127 : Int) =>
                  Ld vw124 ((⟨w.heap.size, 0, none⟩ : Addr).add 3) (Value.int .i64) fun (x128 : Int) =>
                  Ld vw124 ((⟨w.heap.size, 0, none⟩ : Addr).add 4) (Value.int .i64) fun (x129 : Int) =>
                  Ld vw124 ((⟨w.heap.size, 0, none⟩ : Addr).add 5) (Value.int .i64) fun (x130 : Int) =>
                  Ld vw124 (⟨vw8.heap.size, 0, none⟩ : Addr) (Value.int .i64) fun (x131 : Int) =>
                  Ld vw124 ((⟨vw8.heap.size, 0, none⟩ : Addr).add 1) (Value.int .i64) fun (x132 : Int) =>
                  Ld vw124 ((⟨vw8.heap.size, 0, none⟩ : Addr).add 2) (Value.int .i64) fun (x133 : Int) =>
                  Ld vw124 ((⟨vw8.heap.size, 0, none⟩ : Addr).add 3) (Value.int .i64) fun (x134 : Int) =>
                  C20 (x125, x126, x127, x128, x129, x130) (x131, x132, x133, x134) vw124 fun r135 r136 vw137 =>
                    Nw vw137 (.cells #[.int .i64 0, .int .i64 0, .int .i64 0, .int .i64 0] 27) fun vw138 =>
                    St vw138 (⟨vw137.heap.size, 0, none⟩ : Addr) (.int .i64 (r135.1)) fun vw139 =>
                    St vw139 ((⟨vw137.heap.size, 0, none⟩ : Addr).add 1) (.int .i64 (r135.2.1)) fun vw140 =>
                    St vw140 ((⟨vw137.heap.size, 0, none⟩ : Addr).add 2) (.int .i64 (r135.2.2.1)) fun vw141 =>
                    St vw141 ((⟨vw137.heap.size, 0, none⟩ : Addr).add 3) (.int .i64 (r135.2.2.2)) fun vw142 =>
                    Ld vw142 (⟨w.heap.size, 0, none⟩ : Addr) (Value.int .i64) fun (x143 : Int) =>
                    Ld vw142 ((⟨w.heap.size, 0, none⟩ : Addr).add 1) (Value.int .i64) fun (x144 : Int) =>
                    Ld vw142 ((⟨w.heap.size, 0, none⟩ : Addr).add 2) (Value.int .i64) fun (x145 : Int) =>
                    Ld vw142 ((⟨w.heap.size, 0, none⟩ : Addr).add 3) (Value.int .i64) fun (x146 : Int) =>
                    Ld vw142 ((⟨w.heap.size, 0, none⟩ : Addr).add 4) (Value.int .i64) fun (x147 : Int) =>
                    Ld vw142 ((⟨w.heap.size, 0, none⟩ : Addr).add 5) (Value.int .i64) fun (x148 : Int) =>
                    Ld vw142 (⟨vw8.heap.size, 0, none⟩ : Addr) (Value.int .i64) fun (x149 : Int) =>
                    Ld vw142 ((⟨vw8.heap.size, 0, none⟩ : Addr).add 1) (Value.int .i64) fun (x150 : Int) =>
                    Ld vw142 ((⟨vw8.heap.size, 0, none⟩ : Addr).add 2) (Value.int .i64) fun (x151 : Int) =>
                    Ld vw142 ((⟨vw8.heap.size, 0, none⟩ : Addr).add 3) (Value.int .i64) fun (x152 : Int) =>
                    C21 (x143, x144, x145, x146, x147, x148) (x149, x150, x151, x152) vw142 fun r153 r154 vw155 =>
                      Nw vw155 (.cells #[.int .i64 0, .int .i64 0, .int .i64 0, .int .i64 0] 27) fun vw156 =>
                      St vw156 (⟨vw155.heap.size, 0, none⟩ : Addr) (.int .i64 (r153.1)) fun vw157 =>
                      St vw157 ((⟨vw155.heap.size, 0, none⟩ : Addr).add 1) (.int .i64 (r153.2.1)) fun vw158 =>
                      St vw158 ((⟨vw155.heap.size, 0, none⟩ : Addr).add 2) (.int .i64 (r153.2.2.1)) fun vw159 =>
                      St vw159 ((⟨vw155.heap.size, 0, none⟩ : Addr).add 3) (.int .i64 (r153.2.2.2)) fun vw160 =>
                      Ld vw160 (⟨vw9.heap.size, 0, none⟩ : Addr) (Value.int .i64) fun (x161 : Int) =>
                      Ld vw160 ((⟨vw9.heap.size, 0, none⟩ : Addr).add 1) (Value.int .i64) fun (x162 : Int) =>
                      Ld vw160 ((⟨vw9.heap.size, 0, none⟩ : Addr).add 2) (Value.int .i64) fun (x163 : Int) =>
                      Ld vw160 ((⟨vw9.heap.size, 0, none⟩ : Addr).add 3) Value.string fun (x164 : ByteArray) =>
                      Ld vw160 ((⟨vw9.heap.size, 0, none⟩ : Addr).add 4) Slc.v fun (x165 : Slc) =>
                      Ld vw160 ((⟨vw9.heap.size, 0, none⟩ : Addr).add 5) Slc.v fun (x166 : Slc) =>
                      C22 (x161, x162, x163, x164, x165, x166) vw160 fun r167 r168 vw169 =>
                        Nw vw169 (.cells #[.int .i64 0, .int .i64 0, .int .i64 0, .int .i64 0, .int .i64 0, .int .i64 0] 23) fun vw170 =>
                        St vw170 (⟨vw169.heap.size, 0, none⟩ : Addr) (.int .i64 (r167.1)) fun vw171 =>
                        St vw171 ((⟨vw169.heap.size, 0, none⟩ : Addr).add 1) (.int .i64 (r167.2.1)) fun vw172 =>
                        St vw172 ((⟨vw169.heap.size, 0, none⟩ : Addr).add 2) (.int .i64 (r167.2.2.1)) fun vw173 =>
                        St vw173 ((⟨vw169.heap.size, 0, none⟩ : Addr).add 3) (.int .i64 (r167.2.2.2.1)) fun vw174 =>
                        St vw174 ((⟨vw169.heap.size, 0, none⟩ : Addr).add 4) (.int .i64 (r167.2.2.2.2.1)) fun vw175 =>
                        St vw175 ((⟨vw169.heap.size, 0, none⟩ : Addr).add 5) (.int .i64 (r167.2.2.2.2.2)) fun vw176 =>
                        Ld vw176 (⟨vw9.heap.size, 0, none⟩ : Addr) (Value.int .i64) fun (x177 : Int) =>
                        Ld vw176 ((⟨vw9.heap.size, 0, none⟩ : Addr).add 1) (Value.int .i64) fun (x178 : Int) =>
                        Ld vw176 ((⟨vw9.heap.size, 0, none⟩ : Addr).add 2) (Value.int .i64) fun (x179 : Int) =>
                        Ld vw176 ((⟨vw9.heap.size, 0, none⟩ : Addr).add 3) Value.string fun (x180 : ByteArray) =>
                        Ld vw176 ((⟨vw9.heap.size, 0, none⟩ : Addr).add 4) Slc.v fun (x181 : Slc) =>
                        Ld vw176 ((⟨vw9.heap.size, 0, none⟩ : Addr).add 5) Slc.v fun (x182 : Slc) =>
                        C23 (x177, x178, x179, x180, x181, x182) vw176 fun r183 r184 vw185 =>
                          Nw vw185 (.cells #[.int .i64 0, .int .i64 0, .int .i64 0, .int .i64 0, .int .i64 0, .int .i64 0] 23) fun vw186 =>
                          St vw186 (⟨vw185.heap.size, 0, none⟩ : Addr) (.int .i64 (r183.1)) fun vw187 =>
                          St vw187 ((⟨vw185.heap.size, 0, none⟩ : Addr).add 1) (.int .i64 (r183.2.1)) fun vw188 =>
                          St vw188 ((⟨vw185.heap.size, 0, none⟩ : Addr).add 2) (.int .i64 (r183.2.2.1)) fun vw189 =>
                          St vw189 ((⟨vw185.heap.size, 0, none⟩ : Addr).add 3) (.int .i64 (r183.2.2.2.1)) fun vw190 =>
                          St vw190 ((⟨vw185.heap.size, 0, none⟩ : Addr).add 4) (.int .i64 (r183.2.2.2.2.1)) fun vw191 =>
                          St vw191 ((⟨vw185.heap.size, 0, none⟩ : Addr).add 5) (.int .i64 (r183.2.2.2.2.2)) fun vw192 =>
                          Ld vw192 (⟨vw45.heap.size, 0, none⟩ : Addr) (Value.int .i64) fun (x231 : Int) =>
                          Ld vw192 ((⟨vw45.heap.size, 0, none⟩ : Addr).add 1) (Value.int .i64) fun (x232 : Int) =>
                          Ld vw192 ((⟨vw45.heap.size, 0, none⟩ : Addr).add 2) (Value.int .i64) fun (x233 : Int) =>
                          Ld vw192 ((⟨vw45.heap.size, 0, none⟩ : Addr).add 3) (Value.int .i64) fun (x234 : Int) =>
                          Ld vw192 ((⟨vw45.heap.size, 0, none⟩ : Addr).add 4) (Value.int .i64) fun (x235 : Int) =>
                          Ld vw192 ((⟨vw45.heap.size, 0, none⟩ : Addr).add 5) (Value.int .i64) fun (x236 : Int) =>
                          Ld vw192 (⟨vw67.heap.size, 0, none⟩ : Addr) (Value.int .i64) fun (x237 : Int) =>
                          Ld vw192 ((⟨vw67.heap.size, 0, none⟩ : Addr).add 1) (Value.int .i64) fun (x238 : Int) =>
                          Ld vw192 ((⟨vw67.heap.size, 0, none⟩ : Addr).add 2) (Value.int .i64) fun (x239 : Int) =>
                          Ld vw192 ((⟨vw67.heap.size, 0, none⟩ : Addr).add 3) (Value.int .i64) fun (x240 : Int) =>
                          Ld vw192 ((⟨vw67.heap.size, 0, none⟩ : Addr).add 4) (Value.int .i64) fun (x241 : Int) =>
                          Ld vw192 ((⟨vw67.heap.size, 0, none⟩ : Addr).add 5) (Value.int .i64) fun (x242 : Int) =>
                          Lt (!((x231 == x237) && ((x232 == x238) && ((x233 == x239) && ((x234 == x240) && ((x235 == x241) && ((x236 == x242) && true))))))) fun (x243 : Bool) =>
                          Br x243 (R false vw192) (Br (r44 != r66) (R false vw192) (Ld vw192 (⟨vw85.heap.size, 0, none⟩ : Addr) (Value.int .i64) fun (x244 : Int) =>
                              Ld vw192 ((⟨vw85.heap.size, 0, none⟩ : Addr).add 1) (Value.int .i64) fun (x245 : Int) =>
                              Ld vw192 (⟨vw99.heap.size, 0, none⟩ : Addr) (Value.int .i64) fun (x246 : Int) =>
                              Ld vw192 ((⟨vw99.heap.size, 0, none⟩ : Addr).add 1) (Value.int .i64) fun (x247 : Int) =>
                              Br (!((x244 == x246) && ((x245 == x247) && true))) (R false vw192) (Br (r84 != r98) (R false vw192) (Br (r111 != r122) (R false vw192) (Br (r112 != r123) (R false vw192) (Ld vw192 (⟨vw137.heap.size, 0, none⟩ : Addr) (Value.int .i64) fun (x248 : Int) =>
                                      Ld vw192 ((⟨vw137.heap.size, 0, none⟩ : Addr).add 1) (Value.int .i64) fun (x249 : Int) =>
                                      Ld vw192 ((⟨vw137.heap.size, 0, none⟩ : Addr).add 2) (Value.int .i64) fun (x250 : Int) =>
                                      Ld vw192 ((⟨vw137.heap.size, 0, none⟩ : Addr).add 3) (Value.int .i64) fun (x251 : Int) =>
                                      Ld vw192 (⟨vw155.heap.size, 0, none⟩ : Addr) (Value.int .i64) fun (x252 : Int) =>
                                      Ld vw192 ((⟨vw155.heap.size, 0, none⟩ : Addr).add 1) (Value.int .i64) fun (x253 : Int) =>
                                      Ld vw192 ((⟨vw155.heap.size, 0, none⟩ : Addr).add 2) (Value.int .i64) fun (x254 : Int) =>
                                      Ld vw192 ((⟨vw155.heap.size, 0, none⟩ : Addr).add 3) (Value.int .i64) fun (x255 : Int) =>
                                      Br (!((x248 == x252) && ((x249 == x253) && ((x250 == x254) && ((x251 == x255) && true))))) (R false vw192) (Br (r136 != r154) (R false vw192) (Ld vw192 (⟨vw169.heap.size, 0, none⟩ : Addr) (Value.int .i64) fun (x256 : Int) =>
                                          Ld vw192 ((⟨vw169.heap.size, 0, none⟩ : Addr).add 1) (Value.int .i64) fun (x257 : Int) =>
                                          Ld vw192 ((⟨vw169.heap.size, 0, none⟩ : Addr).add 2) (Value.int .i64) fun (x258 : Int) =>
                                          Ld vw192 ((⟨vw169.heap.size, 0, none⟩ : Addr).add 3) (Value.int .i64) fun (x259 : Int) =>
                                          Ld vw192 ((⟨vw169.heap.size, 0, none⟩ : Addr).add 4) (Value.int .i64) fun (x260 : Int) =>
                                          Ld vw192 ((⟨vw169.heap.size, 0, none⟩ : Addr).add 5) (Value.int .i64) fun (x261 : Int) =>
                                          Ld vw192 (⟨vw185.heap.size, 0, none⟩ : Addr) (Value.int .i64) fun (x262 : Int) =>
                                          Ld vw192 ((⟨vw185.heap.size, 0, none⟩ : Addr).add 1) (Value.int .i64) fun (x263 : Int) =>
                                          Ld vw192 ((⟨vw185.heap.size, 0, none⟩ : Addr).add 2) (Value.int .i64) fun (x264 : Int) =>
                                          Ld vw192 ((⟨vw185.heap.size, 0, none⟩ : Addr).add 3) (Value.int .i64) fun (x265 : Int) =>
                                          Ld vw192 ((⟨vw185.heap.size, 0, none⟩ : Addr).add 4) (Value.int .i64) fun (x266 : Int) =>
                                          Ld vw192 ((⟨vw185.heap.size, 0, none⟩ : Addr).add 5) (Value.int .i64) fun (x267 : Int) =>
                                          Lt (!((x256 == x262) && ((x257 == x263) && ((x258 == x264) && ((x259 == x265) && ((x260 == x266) && ((x261 == x267) && true))))))) fun (x268 : Bool) =>
                                          Br x268 (R false vw192) (Br (r168 != r184) (R false vw192) (C24 vw192.drew fun r269 vw270 =>
                                                C25 vw270 fun r271 vw272 =>
                                                  ∃ vS273 : World → Prop, vS273 vw272 ∧ Br ((r269.1 == r271.1) && ((r269.2.1 == r271.2.1) && ((r269.2.2.1 == r271.2.2.1) && ((r269.2.2.2.1 == r271.2.2.2.1) && ((r269.2.2.2.2.1 == r271.2.2.2.2.1) && ((r269.2.2.2.2.2 == r271.2.2.2.2.2) && true)))))) (LdS vS273 (⟨w.heap.size, 0, none⟩ : Addr) (Value.int .i64) fun (x274 : Int) =>
                                                    LdS vS273 ((⟨w.heap.size, 0, none⟩ : Addr).add 1) (Value.int .i64) fun (x275 : Int) =>
                                                    LdS vS273 ((⟨w.heap.size, 0, none⟩ : Addr).add 2) (Value.int .i64) fun (x276 : Int) =>
                                                    LdS vS273 ((⟨w.heap.size, 0, none⟩ : Addr).add 3) (Value.int .i64) fun (x277 : Int) =>
                                                    LdS vS273 ((⟨w.heap.size, 0, none⟩ : Addr).add 4) (Value.int .i64) fun (x278 : Int) =>
                                                    LdS vS273 ((⟨w.heap.size, 0, none⟩ : Addr).add 5) (Value.int .i64) fun (x279 : Int) =>
                                                    LdS vS273 (⟨w.heap.size, 0, none⟩ : Addr) (Value.int .i64) fun (x280 : Int) =>
                                                    LdS vS273 ((⟨w.heap.size, 0, none⟩ : Addr).add 1) (Value.int .i64) fun (x281 : Int) =>
                                                    LdS vS273 ((⟨w.heap.size, 0, none⟩ : Addr).add 2) (Value.int .i64) fun (x282 : Int) =>
                                                    LdS vS273 ((⟨w.heap.size, 0, none⟩ : Addr).add 3) (Value.int .i64) fun (x283 : Int) =>
                                                    LdS vS273 ((⟨w.heap.size, 0, none⟩ : Addr).add 4) (Value.int .i64) fun (x284 : Int) =>
                                                    LdS vS273 ((⟨w.heap.size, 0, none⟩ : Addr).add 5) (Value.int .i64) fun (x285 : Int) =>
                                                    C26 (x274, x275, x276, x277, x278, x279) vw272 fun r286 vw287 =>
                                                      vS273 vw287 ∧ C27 (x280, x281, x282, x283, x284, x285) vw287 fun r288 vw289 =>
                                                        ∃ vS290 : World → Prop, vS290 vw289 ∧ Br (r286 == r288) (LdS vS290 (⟨vw7.heap.size, 0, none⟩ : Addr) (Value.int .i64) fun (x291 : Int) =>
                                                          LdS vS290 ((⟨vw7.heap.size, 0, none⟩ : Addr).add 1) (Value.int .i64) fun (x292 : Int) =>
                                                          LdS vS290 (⟨vw7.heap.size, 0, none⟩ : Addr) (Value.int .i64) fun (x293 : Int) =>
                                                          LdS vS290 ((⟨vw7.heap.size, 0, none⟩ : Addr).add 1) (Value.int .i64) fun (x294 : Int) =>
                                                          C28 x291 x292 vw289 fun r295 vw296 =>
                                                            vS290 vw296 ∧ C29 x293 x294 vw296 fun r297 vw298 =>
                                                              ∃ vS299 : World → Prop, vS299 vw298 ∧ Br ((r295.1 == r297.1) && ((r295.2.1 == r297.2.1) && ((r295.2.2.1 == r297.2.2.1) && ((r295.2.2.2.1 == r297.2.2.2.1) && ((r295.2.2.2.2.1 == r297.2.2.2.2.1) && ((r295.2.2.2.2.2 == r297.2.2.2.2.2) && true)))))) (LdS vS299 (⟨vw7.heap.size, 0, none⟩ : Addr) (Value.int .i64) fun (x300 : Int) =>
                                                                LdS vS299 ((⟨vw7.heap.size, 0, none⟩ : Addr).add 1) (Value.int .i64) fun (x301 : Int) =>
                                                                LdS vS299 (⟨vw7.heap.size, 0, none⟩ : Addr) (Value.int .i64) fun (x302 : Int) =>
                                                                LdS vS299 ((⟨vw7.heap.size, 0, none⟩ : Addr).add 1) (Value.int .i64) fun (x303 : Int) =>
                                                                C30 x300 x301 vw298 fun r304 vw305 =>
                                                                  vS299 vw305 ∧ C31 x302 x303 vw305 fun r306 vw307 =>
                                                                    ∃ vS308 : World → Prop, vS308 vw307 ∧ Br ((r304.1 == r306.1) && ((r304.2.1 == r306.2.1) && ((r304.2.2.1 == r306.2.2.1) && ((r304.2.2.2.1 == r306.2.2.2.1) && ((r304.2.2.2.2.1 == r306.2.2.2.2.1) && ((r304.2.2.2.2.2 == r306.2.2.2.2.2) && true)))))) (LdS vS308 (⟨w.heap.size, 0, none⟩ : Addr) (Value.int .i64) fun (x309 : Int) =>
                                                                      LdS vS308 ((⟨w.heap.size, 0, none⟩ : Addr).add 1) (Value.int .i64) fun (x310 : Int) =>
                                                                      LdS vS308 ((⟨w.heap.size, 0, none⟩ : Addr).add 2) (Value.int .i64) fun (x311 : Int) =>
                                                                      LdS vS308 ((⟨w.heap.size, 0, none⟩ : Addr).add 3) (Value.int .i64) fun (x312 : Int) =>
                                                                      LdS vS308 ((⟨w.heap.size, 0, none⟩ : Addr).add 4) (Value.int .i64) fun (x313 : Int) =>
                                                                      LdS vS308 ((⟨w.heap.size, 0, none⟩ : Addr).add 5) (Value.int .i64) fun (x314 : Int) =>
                                                                      LdS vS308 (⟨w.heap.size, 0, none⟩ : Addr) (Value.int .i64) fun (x315 : Int) =>
                                                                      LdS vS308 ((⟨w.heap.size, 0, none⟩ : Addr).add 1) (Value.int .i64) fun (x316 : Int) =>
                                                                      LdS vS308 ((⟨w.heap.size, 0, none⟩ : Addr).add 2) (Value.int .i64) fun (x317 : Int) =>
                                                                      LdS vS308 ((⟨w.heap.size, 0, none⟩ : Addr).add 3) (Value.int .i64) fun (x318 : Int) =>
                                                                      LdS vS308 ((⟨w.heap.size, 0, none⟩ : Addr).add 4) (Value.int .i64) fun (x319 : Int) =>
                                                                      LdS vS308 ((⟨w.heap.size, 0, none⟩ : Addr).add 5) (Value.int .i64) fun (x320 : Int) =>
                                                                      C33 (x309, x310, x311, x312, x313, x314) vw307 fun r321 vw322 =>
                                                                        vS308 vw322 ∧ C34 (x315, x316, x317, x318, x319, x320) vw322 fun r323 vw324 =>
                                                                          C32 (r321.1, r321.2.1, r321.2.2.1, r321.2.2.2.1, r321.2.2.2.2.1, r321.2.2.2.2.2) (r323.1, r323.2.1, r323.2.2.1, r323.2.2.2.1, r323.2.2.2.2.1, r323.2.2.2.2.2) vw324 fun r325 vw326 =>
                                                                            Br r325 (C13 vw326 fun r327 vw328 =>
                                                                                R r327 vw328) (R false vw326)) (R false vw307)) (∃ vS329 : World → Prop, vS329 vw298 ∧ R false vw298)) (∃ vS330 : World → Prop, vS330 vw289 ∧ ∃ vS331 : World → Prop, vS331 vw289 ∧ R false vw289)) (∃ vS332 : World → Prop, vS332 vw272 ∧ ∃ vS333 : World → Prop, vS333 vw272 ∧ ∃ vS334 : World → Prop, vS334 vw272 ∧ R false vw272))))))))))))
def pl3 : Plan := (.seq (.reg .seq) (.seq (.seq (.reg .seq) (.cond (.seq (.reg .seq) .leaf) .leaf)) (.seq (.reg .seq) (.seq (.reg .seq) (.seq (.reg .seq) (.seq (.reg .seq) (.seq (.reg .seq) (.seq (.reg .seq) (.seq (.reg .seq) (.seq (.reg .seq) (.seq (.reg .seq) (.seq (.reg .seq) (.seq (.seq (.reg .seq) (.cond (.seq (.reg .seq) .leaf) .leaf)) (.seq (.reg (.held [0] (.eff 0 (some [1]) (.eff 1 (some [7]) (.take 2 (.take 3 (.take 4 (.take 6 (.eff 5 none (.eff 7 (some [20]) (.take 8 (.take 9 (.take 10 (.take 11 (.take 12 (.take 13 (.take 14 (.take 16 (.take 17 (.take 18 (.take 19 (.eff 15 none (.eff 20 (some [33]) (.take 21 (.take 22 (.take 23 (.take 24 (.take 25 (.take 26 (.take 27 (.take 29 (.take 30 (.take 31 (.take 32 (.eff 28 none (.eff 33 (some [40]) (.take 34 (.take 35 (.take 36 (.take 37 (.take 39 (.eff 38 none (.eff 40 (some [41]) (.eff 41 (some [44]) (.take 42 (.take 43 (.eff 44 (some []) (.take 45 (.take 46 .done))))))))))))))))))))))))))))))))))))))))))))))))) .leaf))))))))))))))
set_option maxRecDepth 100000 in
theorem T3 (a1 : Int × Int × Int × Int × Int × Int) (b2 : Int × Int × Int × Int × Int × Int) (p3 : Int × Int) (r4 : Int × Int × Int × Int) (o5 : Int × Int × Int × ByteArray × Slc × Slc) (w : World) (R : Bool → World → Prop) (h : S3 a1 b2 p3 r4 o5 w R) : C3 (a1.1, a1.2.1, a1.2.2.1, a1.2.2.2.1, a1.2.2.2.2.1, a1.2.2.2.2.2) (b2.1, b2.2.1, b2.2.2.1, b2.2.2.2.1, b2.2.2.2.2.1, b2.2.2.2.2.2) (p3.1, p3.2) (r4.1, r4.2.1, r4.2.2.1, r4.2.2.2) (o5.1, o5.2.1, o5.2.2.1, o5.2.2.2.1, o5.2.2.2.2.1, o5.2.2.2.2.2) w R := by
  have e : fnT Try.prog ⟨FF, MAY, (fun _ _ => False)⟩ pl3 Try.f3 [.agg #[.int .i64 (a1.1), .int .i64 (a1.2.1), .int .i64 (a1.2.2.1), .int .i64 (a1.2.2.2.1), .int .i64 (a1.2.2.2.2.1), .int .i64 (a1.2.2.2.2.2)], .agg #[.int .i64 (b2.1), .int .i64 (b2.2.1), .int .i64 (b2.2.2.1), .int .i64 (b2.2.2.2.1), .int .i64 (b2.2.2.2.2.1), .int .i64 (b2.2.2.2.2.2)], .agg #[.int .i64 (p3.1), .int .i64 (p3.2)], .agg #[.int .i64 (r4.1), .int .i64 (r4.2.1), .int .i64 (r4.2.2.1), .int .i64 (r4.2.2.2)], .agg #[.int .i64 (o5.1), .int .i64 (o5.2.1), .int .i64 (o5.2.2.1), .string o5.2.2.2.1, Slc.v o5.2.2.2.2.1, Slc.v o5.2.2.2.2.2]] w [(.one .bool)] (fun s w => R s w) = S3 a1 b2 p3 r4 o5 w R := by kernel_rfl
  exact (fn_calls okF okM Try.func3 (by kernel_rfl) (by kernel_rfl) (e.mpr h)).mono fun _ _ ⟨s, he, hR⟩ => ⟨s, he, hR⟩

end Go.Proofs.Ytjlaijhmnlkpiaa
