/- The formulas of 3 functions of the program, written by program (gen.py); the kernel checks each. No condition. -/
import Derived.Test.YtcblpehnkogfdaaGreatDoorFn
import Derived.Test.YtcblpehnkogfdaaGreatDoorFnFix
import Derived.Test.YtcblpehnkogfdaaGreatDoorFnMat
import Derived.Test.YtcblpehnkogfdaaGreatDoorFnFont
import Derived.Test.YtcblpehnkogfdaaGreatDoorFnShow
import Derived.Test.YtcblpehnkogfdaaGreatDoorFnObj
import Derived.Test.YtcblpehnkogfdaaGreatDoorFnOps
import Derived.Test.YtcblpehnkogfdaaGreatDoorFnMach
import Derived.Test.YtcblpehnkogfdaaGreatDoorFnLs
namespace Go.Proofs.YtcblpehnkogfdaaGreatDoor
open Sh
set_option linter.unusedVariables false
set_option maxRecDepth 100000

def C4 (g1 : TyA30) (f2 : TyA34) (a3 : Int) (b4 : Int) (c5 : Int) (d6 : Int) (w : World) (R : Bool → World → Prop) : Prop :=
  Calls Tryz.prog 4 #[.agg (Sig.cells LiA30 g1).toArray, .agg (Sig.cells LiA34 f2).toArray, .int .i64 a3, .int .i64 b4, .int .i64 c5, .int .i64 d6] w fun e w' => ∃ r0 : Bool, e = .returned (.bool r0) ∧ R r0 w'
theorem C4.mono {g1 : TyA30} {f2 : TyA34} {a3 : Int} {b4 : Int} {c5 : Int} {d6 : Int} {w : World} {R R' : Bool → World → Prop} (h : C4 g1 f2 a3 b4 c5 d6 w R) (hr : ∀ r0 w', R r0 w' → R' r0 w') : C4 g1 f2 a3 b4 c5 d6 w R' :=
  Calls.mono h fun _ _ ⟨r0, he, hR⟩ => ⟨r0, he, hr _ _ hR⟩
def C15 (a1 : Slc) (b2 : Slc) (w : World) (R : Bool → World → Prop) : Prop :=
  Calls Tryz.prog 15 #[Slc.v a1, Slc.v b2] w fun e w' => ∃ r0 : Bool, e = .returned (.bool r0) ∧ R r0 w'
theorem C15.mono {a1 : Slc} {b2 : Slc} {w : World} {R R' : Bool → World → Prop} (h : C15 a1 b2 w R) (hr : ∀ r0 w', R r0 w' → R' r0 w') : C15 a1 b2 w R' :=
  Calls.mono h fun _ _ ⟨r0, he, hR⟩ => ⟨r0, he, hr _ _ hR⟩
def C5 (g1 : TyA30) (m2 : Int × Int × Int × Int × Int × Int) (f3 : TyA34) (s4 : ByteArray) (t5 : ByteArray) (w : World) (R : Bool → World → Prop) : Prop :=
  Calls Tryz.prog 5 #[.agg (Sig.cells LiA30 g1).toArray, .agg #[.int .i64 (m2.1), .int .i64 (m2.2.1), .int .i64 (m2.2.2.1), .int .i64 (m2.2.2.2.1), .int .i64 (m2.2.2.2.2.1), .int .i64 (m2.2.2.2.2.2)], .agg (Sig.cells LiA34 f3).toArray, .string s4, .string t5] w fun e w' => ∃ r0 : Bool, e = .returned (.bool r0) ∧ R r0 w'
theorem C5.mono {g1 : TyA30} {m2 : Int × Int × Int × Int × Int × Int} {f3 : TyA34} {s4 : ByteArray} {t5 : ByteArray} {w : World} {R R' : Bool → World → Prop} (h : C5 g1 m2 f3 s4 t5 w R) (hr : ∀ r0 w', R r0 w' → R' r0 w') : C5 g1 m2 f3 s4 t5 w R' :=
  Calls.mono h fun _ _ ⟨r0, he, hR⟩ => ⟨r0, he, hr _ _ hR⟩

def S4L1 (w : World) (a3 : Int) (b4 : Int) (c5 : Int) (d6 : Int) (vw7 : World) (vw12 : World) (R : Bool → World → Prop) (I24 : Int → World → Prop) (s22 : Int) (vw23 : World) : Prop :=
  Br (decide (s22 < (((⟨some ⟨vw12.heap.size, 0, none⟩, 5, 5⟩ : Slc).len : Nat) : Int))) (0 ≤ s22 ∧ s22 < ((⟨some ⟨vw12.heap.size, 0, none⟩, 5, 5⟩ : Slc).len : Nat) ∧ Nn (⟨some ⟨vw12.heap.size, 0, none⟩, 5, 5⟩ : Slc).p fun a25 =>
    Ld vw23 (a25.add ((s22).toNat * 1)) (Value.int .i64) fun (x26 : Int) =>
    Br (decide (x26 < (-100000000))) (R true vw23) (Br (decide (x26 > 100000000)) (R true vw23) (I24 (IntKind.i64.wrap (s22 + 1)) vw23))) (LdT vw23 (⟨w.heap.size, 0, none⟩ : Addr) 0 LiA30 fun (x30 : TyA30) =>
    C18 x30 vw23 fun r31 vw32 =>
      Br (r31 != 0) (R true vw32) (C7 vw32 fun r33 vw34 =>
          C7 vw34 fun r35 vw36 =>
            C19 (⟨#[84, 100]⟩ : ByteArray) a3 b4 vw36 fun r37 vw38 =>
              Nw vw38 (.cells #[.string ((⟨#[]⟩ : ByteArray)), Slc.v ((⟨none, 0, 0⟩ : Slc)), .string ((⟨#[]⟩ : ByteArray))] 48) fun vw39 =>
              St vw39 (⟨vw38.heap.size, 0, none⟩ : Addr) (.string r37.1) fun vw40 =>
              St vw40 ((⟨vw38.heap.size, 0, none⟩ : Addr).add 1) (Slc.v r37.2.1) fun vw41 =>
              St vw41 ((⟨vw38.heap.size, 0, none⟩ : Addr).add 2) (.string r37.2.2) fun vw42 =>
              LdT vw42 (⟨w.heap.size, 0, none⟩ : Addr) 0 LiA30 fun (x43 : TyA30) =>
              LdT vw42 (⟨vw7.heap.size, 0, none⟩ : Addr) 0 LiA34 fun (x44 : TyA34) =>
              C13 r33 ((⟨#[66, 84]⟩ : ByteArray), (⟨none, 0, 0⟩ : Slc), (⟨#[]⟩ : ByteArray)) x43 x44 vw42 fun r45 r46 vw47 =>
                LdT vw47 (⟨w.heap.size, 0, none⟩ : Addr) 0 LiA30 fun (x48 : TyA30) =>
                LdT vw47 (⟨vw7.heap.size, 0, none⟩ : Addr) 0 LiA34 fun (x49 : TyA34) =>
                C13 r35 ((⟨#[66, 84]⟩ : ByteArray), (⟨none, 0, 0⟩ : Slc), (⟨#[]⟩ : ByteArray)) x48 x49 vw47 fun r50 r51 vw52 =>
                  Ld vw52 (⟨vw38.heap.size, 0, none⟩ : Addr) Value.string fun (x53 : ByteArray) =>
                  Ld vw52 ((⟨vw38.heap.size, 0, none⟩ : Addr).add 1) Slc.v fun (x54 : Slc) =>
                  Ld vw52 ((⟨vw38.heap.size, 0, none⟩ : Addr).add 2) Value.string fun (x55 : ByteArray) =>
                  LdT vw52 (⟨w.heap.size, 0, none⟩ : Addr) 0 LiA30 fun (x56 : TyA30) =>
                  LdT vw52 (⟨vw7.heap.size, 0, none⟩ : Addr) 0 LiA34 fun (x57 : TyA34) =>
                  C13 r33 (x53, x54, x55) x56 x57 vw52 fun r58 r59 vw60 =>
                    ∃ vS61 : World → Prop, vS61 vw60.drew ∧ LdST vS61 (⟨w.heap.size, 0, none⟩ : Addr) 0 LiA30 fun (x62 : TyA30) =>
                    LdST vS61 (⟨vw7.heap.size, 0, none⟩ : Addr) 0 LiA34 fun (x63 : TyA34) =>
                    C19 (⟨#[84, 68]⟩ : ByteArray) c5 d6 vw60.drew fun r64 vw65 =>
                      vS61 vw65 ∧ C13 r33 (r64.1, r64.2.1, r64.2.2) x62 x63 vw65 fun r66 r67 vw68 =>
                        ∃ vS69 : World → Prop, vS69 vw68.drew ∧ LdST vS69 (⟨w.heap.size, 0, none⟩ : Addr) 0 LiA30 fun (x70 : TyA30) =>
                        LdST vS69 (⟨vw7.heap.size, 0, none⟩ : Addr) 0 LiA34 fun (x71 : TyA34) =>
                        C19 (⟨#[84, 100]⟩ : ByteArray) (IntKind.i64.wrap (a3 + c5)) (IntKind.i64.wrap (b4 + d6)) vw68.drew fun r72 vw73 =>
                          vS69 vw73 ∧ C13 r35 (r72.1, r72.2.1, r72.2.2) x70 x71 vw73 fun r74 r75 vw76 =>
                            Br (r46 != 0) (R false vw76) (Br (r51 != 0) (R false vw76) (Br (r59 != 0) (R false vw76) (Br (r67 != 0) (R false vw76) (Br (r75 != 0) (R false vw76) (C17 r33 vw76 fun r87 vw88 =>
                                        C17 r35 vw88 fun r89 vw90 =>
                                          Lt (!((r87.1 == r89.1) && ((r87.2.1 == r89.2.1) && ((r87.2.2.1 == r89.2.2.1) && ((r87.2.2.2.1 == r89.2.2.2.1) && ((r87.2.2.2.2.1 == r89.2.2.2.2.1) && ((r87.2.2.2.2.2 == r89.2.2.2.2.2) && true))))))) fun (x91 : Bool) =>
                                          Br x91 (R false vw90) (C17 r33 vw90 fun r92 vw93 =>
                                              C20 (IntKind.i64.wrap (a3 + c5)) (IntKind.i64.wrap (b4 + d6)) vw93 fun r94 vw95 =>
                                                Lt (!((r92.1 == r94.1) && ((r92.2.1 == r94.2.1) && ((r92.2.2.1 == r94.2.2.1) && ((r92.2.2.2.1 == r94.2.2.2.1) && ((r92.2.2.2.2.1 == r94.2.2.2.2.1) && ((r92.2.2.2.2.2 == r94.2.2.2.2.2) && true))))))) fun (x96 : Bool) =>
                                                Br x96 (R false vw95) (LdT vw95 (⟨w.heap.size, 0, none⟩ : Addr) 0 LiA30 fun (x97 : TyA30) =>
                                                  LdT vw95 (⟨vw7.heap.size, 0, none⟩ : Addr) 0 LiA34 fun (x98 : TyA34) =>
                                                  C13 r33 ((⟨#[84, 42]⟩ : ByteArray), (⟨none, 0, 0⟩ : Slc), (⟨#[]⟩ : ByteArray)) x97 x98 vw95 fun r99 r100 vw101 =>
                                                    ∃ vS102 : World → Prop, vS102 vw101.drew ∧ LdS vS102 (((⟨w.heap.size, 0, none⟩ : Addr).add 22).add 3) (Value.int .i64) fun (x103 : Int) =>
                                                    LdST vS102 (⟨w.heap.size, 0, none⟩ : Addr) 0 LiA30 fun (x104 : TyA30) =>
                                                    LdST vS102 (⟨vw7.heap.size, 0, none⟩ : Addr) 0 LiA34 fun (x105 : TyA34) =>
                                                    C19 (⟨#[84, 100]⟩ : ByteArray) 0 (IntKind.i64.wrap (0 - x103)) vw101.drew fun r106 vw107 =>
                                                      vS102 vw107 ∧ C13 r35 (r106.1, r106.2.1, r106.2.2) x104 x105 vw107 fun r108 r109 vw110 =>
                                                        C17 r33 vw110 fun r111 vw112 =>
                                                          Nw vw112 (.cells #[.int .i64 0, .int .i64 0, .int .i64 0, .int .i64 0, .int .i64 0, .int .i64 0] 24) fun vw113 =>
                                                          St vw113 (⟨vw112.heap.size, 0, none⟩ : Addr) (.int .i64 (r111.1)) fun vw114 =>
                                                          St vw114 ((⟨vw112.heap.size, 0, none⟩ : Addr).add 1) (.int .i64 (r111.2.1)) fun vw115 =>
                                                          St vw115 ((⟨vw112.heap.size, 0, none⟩ : Addr).add 2) (.int .i64 (r111.2.2.1)) fun vw116 =>
                                                          St vw116 ((⟨vw112.heap.size, 0, none⟩ : Addr).add 3) (.int .i64 (r111.2.2.2.1)) fun vw117 =>
                                                          St vw117 ((⟨vw112.heap.size, 0, none⟩ : Addr).add 4) (.int .i64 (r111.2.2.2.2.1)) fun vw118 =>
                                                          St vw118 ((⟨vw112.heap.size, 0, none⟩ : Addr).add 5) (.int .i64 (r111.2.2.2.2.2)) fun vw119 =>
                                                          LdT vw119 (⟨w.heap.size, 0, none⟩ : Addr) 0 LiA30 fun (x120 : TyA30) =>
                                                          LdT vw119 (⟨vw7.heap.size, 0, none⟩ : Addr) 0 LiA34 fun (x121 : TyA34) =>
                                                          C13 r33 ((⟨#[66, 84]⟩ : ByteArray), (⟨none, 0, 0⟩ : Slc), (⟨#[]⟩ : ByteArray)) x120 x121 vw119 fun r122 r123 vw124 =>
                                                            LdT vw124 (⟨w.heap.size, 0, none⟩ : Addr) 0 LiA30 fun (x125 : TyA30) =>
                                                            LdT vw124 (⟨vw7.heap.size, 0, none⟩ : Addr) 0 LiA34 fun (x126 : TyA34) =>
                                                            C13 r33 ((⟨#[84, 100]⟩ : ByteArray), (⟨none, 0, 0⟩ : Slc), (⟨#[]⟩ : ByteArray)) x125 x126 vw124 fun r127 r128 vw129 =>
                                                              ∃ vS149 : World → Prop, vS149 vw129.drew ∧ Br (r100 != 0) (R false vw129.drew) (Br (r109 != 0) (R false vw129.drew) (LdS vS149 (⟨vw112.heap.size, 0, none⟩ : Addr) (Value.int .i64) fun (x150 : Int) =>
                                                                  LdS vS149 ((⟨vw112.heap.size, 0, none⟩ : Addr).add 1) (Value.int .i64) fun (x151 : Int) =>
                                                                  LdS vS149 ((⟨vw112.heap.size, 0, none⟩ : Addr).add 2) (Value.int .i64) fun (x152 : Int) =>
                                                                  LdS vS149 ((⟨vw112.heap.size, 0, none⟩ : Addr).add 3) (Value.int .i64) fun (x153 : Int) =>
                                                                  LdS vS149 ((⟨vw112.heap.size, 0, none⟩ : Addr).add 4) (Value.int .i64) fun (x154 : Int) =>
                                                                  LdS vS149 ((⟨vw112.heap.size, 0, none⟩ : Addr).add 5) (Value.int .i64) fun (x155 : Int) =>
                                                                  C17 r35 vw129.drew fun r156 vw157 =>
                                                                    vS149 vw157 ∧ Br (!((x150 == r156.1) && ((x151 == r156.2.1) && ((x152 == r156.2.2.1) && ((x153 == r156.2.2.2.1) && ((x154 == r156.2.2.2.2.1) && ((x155 == r156.2.2.2.2.2) && true))))))) (R false vw157) (Br (r123 != 29) (R false vw157) (Br (r128 != 28) (R false vw157) (LdS vS149 (⟨vw112.heap.size, 0, none⟩ : Addr) (Value.int .i64) fun (x158 : Int) =>
                                                                          LdS vS149 ((⟨vw112.heap.size, 0, none⟩ : Addr).add 1) (Value.int .i64) fun (x159 : Int) =>
                                                                          LdS vS149 ((⟨vw112.heap.size, 0, none⟩ : Addr).add 2) (Value.int .i64) fun (x160 : Int) =>
                                                                          LdS vS149 ((⟨vw112.heap.size, 0, none⟩ : Addr).add 3) (Value.int .i64) fun (x161 : Int) =>
                                                                          LdS vS149 ((⟨vw112.heap.size, 0, none⟩ : Addr).add 4) (Value.int .i64) fun (x162 : Int) =>
                                                                          LdS vS149 ((⟨vw112.heap.size, 0, none⟩ : Addr).add 5) (Value.int .i64) fun (x163 : Int) =>
                                                                          C17 r33 vw157 fun r164 vw165 =>
                                                                            vS149 vw165 ∧ Br (!((r164.1 == x158) && ((r164.2.1 == x159) && ((r164.2.2.1 == x160) && ((r164.2.2.2.1 == x161) && ((r164.2.2.2.2.1 == x162) && ((r164.2.2.2.2.2 == x163) && true))))))) (R false vw165) (C16 r33 vw165 fun r166 vw167 =>
                                                                                Br (!r166) (R false vw167) (∃ vS168 : World → Prop, vS168 vw167.drew ∧ LdST vS168 (⟨w.heap.size, 0, none⟩ : Addr) 0 LiA30 fun (x169 : TyA30) =>
                                                                                  LdST vS168 (⟨vw7.heap.size, 0, none⟩ : Addr) 0 LiA34 fun (x170 : TyA34) =>
                                                                                  C20 c5 d6 vw167.drew fun r171 vw172 =>
                                                                                    vS168 vw172 ∧ C21 (r171.1, r171.2.1, r171.2.2.1, r171.2.2.2.1, r171.2.2.2.2.1, r171.2.2.2.2.2) vw172 fun r173 vw174 =>
                                                                                      vS168 vw174 ∧ C13 r33 ((⟨#[84, 109]⟩ : ByteArray), r173.2.2.2.2.2, (⟨#[]⟩ : ByteArray)) x169 x170 vw174 fun r175 r176 vw177 =>
                                                                                        C17 r33 vw177 fun r178 vw179 =>
                                                                                          Nw vw179 (.cells #[.int .i64 0, .int .i64 0, .int .i64 0, .int .i64 0, .int .i64 0, .int .i64 0] 24) fun vw180 =>
                                                                                          St vw180 (⟨vw179.heap.size, 0, none⟩ : Addr) (.int .i64 (r178.1)) fun vw181 =>
                                                                                          St vw181 ((⟨vw179.heap.size, 0, none⟩ : Addr).add 1) (.int .i64 (r178.2.1)) fun vw182 =>
                                                                                          St vw182 ((⟨vw179.heap.size, 0, none⟩ : Addr).add 2) (.int .i64 (r178.2.2.1)) fun vw183 =>
                                                                                          St vw183 ((⟨vw179.heap.size, 0, none⟩ : Addr).add 3) (.int .i64 (r178.2.2.2.1)) fun vw184 =>
                                                                                          St vw184 ((⟨vw179.heap.size, 0, none⟩ : Addr).add 4) (.int .i64 (r178.2.2.2.2.1)) fun vw185 =>
                                                                                          St vw185 ((⟨vw179.heap.size, 0, none⟩ : Addr).add 5) (.int .i64 (r178.2.2.2.2.2)) fun vw186 =>
                                                                                          LdT vw186 (⟨w.heap.size, 0, none⟩ : Addr) 0 LiA30 fun (x187 : TyA30) =>
                                                                                          LdT vw186 (⟨vw7.heap.size, 0, none⟩ : Addr) 0 LiA34 fun (x188 : TyA34) =>
                                                                                          C13 r33 ((⟨#[69, 84]⟩ : ByteArray), (⟨none, 0, 0⟩ : Slc), (⟨#[]⟩ : ByteArray)) x187 x188 vw186 fun r189 r190 vw191 =>
                                                                                            Ld vw191 (⟨vw38.heap.size, 0, none⟩ : Addr) Value.string fun (x192 : ByteArray) =>
                                                                                            Ld vw191 ((⟨vw38.heap.size, 0, none⟩ : Addr).add 1) Slc.v fun (x193 : Slc) =>
                                                                                            Ld vw191 ((⟨vw38.heap.size, 0, none⟩ : Addr).add 2) Value.string fun (x194 : ByteArray) =>
                                                                                            LdT vw191 (⟨w.heap.size, 0, none⟩ : Addr) 0 LiA30 fun (x195 : TyA30) =>
                                                                                            LdT vw191 (⟨vw7.heap.size, 0, none⟩ : Addr) 0 LiA34 fun (x196 : TyA34) =>
                                                                                            C13 r33 (x192, x193, x194) x195 x196 vw191 fun r197 r198 vw199 =>
                                                                                              ∃ vS200 : World → Prop, vS200 vw199.drew ∧ Br (r176 == 0) (LdS vS200 (⟨vw179.heap.size, 0, none⟩ : Addr) (Value.int .i64) fun (x201 : Int) =>
                                                                                                LdS vS200 ((⟨vw179.heap.size, 0, none⟩ : Addr).add 1) (Value.int .i64) fun (x202 : Int) =>
                                                                                                LdS vS200 ((⟨vw179.heap.size, 0, none⟩ : Addr).add 2) (Value.int .i64) fun (x203 : Int) =>
                                                                                                LdS vS200 ((⟨vw179.heap.size, 0, none⟩ : Addr).add 3) (Value.int .i64) fun (x204 : Int) =>
                                                                                                LdS vS200 ((⟨vw179.heap.size, 0, none⟩ : Addr).add 4) (Value.int .i64) fun (x205 : Int) =>
                                                                                                LdS vS200 ((⟨vw179.heap.size, 0, none⟩ : Addr).add 5) (Value.int .i64) fun (x206 : Int) =>
                                                                                                C20 c5 d6 vw199.drew fun r207 vw208 =>
                                                                                                  vS200 vw208 ∧ Br ((x201 == r207.1) && ((x202 == r207.2.1) && ((x203 == r207.2.2.1) && ((x204 == r207.2.2.2.1) && ((x205 == r207.2.2.2.2.1) && ((x206 == r207.2.2.2.2.2) && true)))))) (Br (r190 == 0) (C16 r33 vw208 fun r209 vw210 =>
                                                                                                        Br (!r209) (C17 r33 vw210 fun r211 vw212 =>
                                                                                                            C22 vw212 fun r213 vw214 =>
                                                                                                              Br ((r211.1 == r213.1) && ((r211.2.1 == r213.2.1) && ((r211.2.2.1 == r213.2.2.1) && ((r211.2.2.2.1 == r213.2.2.2.1) && ((r211.2.2.2.2.1 == r213.2.2.2.2.1) && ((r211.2.2.2.2.2 == r213.2.2.2.2.2) && true)))))) (R (r198 == 29) vw214) (R false vw214)) (R false vw210)) (R false vw208)) (R false vw208)) (R false vw199.drew)))))))))))))))))
/-- foliant/foliantlaw48.ShowMoves -/
def S4 (g1 : TyA30) (f2 : TyA34) (a3 : Int) (b4 : Int) (c5 : Int) (d6 : Int) (w : World) (R : Bool → World → Prop) : Prop :=
  Nw w (.cells (Sig.cells LiA30 g1).toArray 31) fun vw7 =>
  Nw vw7 (.cells (Sig.cells LiA34 f2).toArray 35) fun vw8 =>
  C10 vw8 fun r11 vw12 =>
    Br (!r11) (R false vw12) (Ld vw12 (((⟨w.heap.size, 0, none⟩ : Addr).add 22).add 3) (Value.int .i64) fun (x20 : Int) =>
      Nw vw12 (.cells #[.int .i64 a3, .int .i64 b4, .int .i64 c5, .int .i64 d6, .int .i64 x20] 2) fun vw21 =>
      Lp (σ := Int) (S4L1 w a3 b4 c5 d6 vw7 vw12 R) 0 vw21)
def pl4 : Plan := (.seq (.reg .seq) (.seq (.seq (.reg .seq) (.cond (.seq (.reg .seq) .leaf) .leaf)) (.seq (.seq (.reg .seq) (.block (.loop [(55, (.one (.int .i64)))] [2, 3, 4, 5, 6, 7, 53, 54] (.seq (.reg .seq) (.seq (.cond .leaf .leaf) (.seq (.block (.seq (.reg .seq) (.seq (.reg .seq) (.cond (.seq (.reg .seq) .leaf) .leaf)))) (.reg .seq))))))) (.seq (.seq (.reg .seq) (.cond (.seq (.reg .seq) .leaf) .leaf)) (.seq (.reg .seq) (.seq (.reg .seq) (.seq (.reg .seq) (.seq (.reg .seq) (.seq (.reg .seq) (.seq (.reg (.held [6] (.take 0 (.take 1 (.take 2 (.take 4 (.take 5 (.eff 3 none (.eff 6 (some []) (.take 7 (.take 8 (.take 9 (.take 10 (.take 11 .done)))))))))))))) (.seq (.reg (.held [10] (.take 0 (.take 1 (.take 2 (.take 3 (.take 4 (.take 5 (.take 6 (.take 8 (.take 9 (.eff 7 none (.eff 10 (some []) (.take 11 (.take 12 (.take 13 (.take 14 (.take 15 .done)))))))))))))))))) (.seq (.seq (.reg .seq) (.cond (.seq (.reg .seq) .leaf) .leaf)) (.seq (.reg .seq) (.seq (.reg (.held [8] (.take 0 (.take 1 (.take 2 (.take 3 (.take 4 (.take 6 (.take 7 (.eff 5 none (.eff 8 (some []) (.take 9 (.take 10 (.take 11 (.take 12 (.take 13 .done)))))))))))))))) (.seq (.reg .seq) (.seq (.reg .seq) (.seq (.reg .seq) (.seq (.seq (.reg (.held [28] (.take 0 (.take 1 (.take 2 (.take 3 (.take 4 (.take 5 (.take 6 (.take 7 (.take 8 (.eff 9 none (.take 10 (.take 11 (.take 12 (.take 13 (.take 14 (.take 15 (.take 16 (.take 17 (.take 18 (.take 19 (.take 20 (.take 21 (.take 23 (.eff 22 none (.take 24 (.take 25 (.take 26 (.take 27 (.eff 28 (some []) (.take 29 (.take 30 .done))))))))))))))))))))))))))))))))) (.cond (.seq (.reg .seq) .leaf) .leaf)) (.seq (.reg (.held [9] (.take 0 (.take 1 (.take 2 (.take 7 (.take 8 (.eff 3 none (.eff 4 none (.take 5 (.take 6 (.eff 9 (some []) (.take 10 (.take 11 (.take 12 (.take 13 (.take 14 .done))))))))))))))))) (.seq (.reg .seq) (.seq (.reg .seq) (.seq (.reg .seq) (.seq (.reg (.held [15] (.take 0 (.take 1 (.take 2 (.take 3 (.take 4 (.take 5 (.eff 6 none (.take 7 (.take 8 (.take 9 (.take 10 (.take 11 (.take 12 (.take 13 (.take 14 (.eff 15 (some [20]) (.take 16 (.take 17 (.take 18 (.take 19 (.eff 20 (some [21]) (.eff 21 (some []) (.take 22 (.take 23 (.take 24 (.take 25 (.take 26 (.take 27 (.take 28 .done))))))))))))))))))))))))))))))) .leaf)))))))))))))))))))))))
set_option maxRecDepth 100000 in
theorem T4 (g1 : TyA30) (f2 : TyA34) (a3 : Int) (b4 : Int) (c5 : Int) (d6 : Int) (w : World) (R : Bool → World → Prop) (h : S4 g1 f2 a3 b4 c5 d6 w R) : C4 g1 f2 a3 b4 c5 d6 w R := by
  have e : fnT Tryz.prog ⟨FF, MAY, (fun _ _ => False)⟩ pl4 Tryz.f4 [.agg (Sig.cells LiA30 g1).toArray, .agg (Sig.cells LiA34 f2).toArray, .int .i64 a3, .int .i64 b4, .int .i64 c5, .int .i64 d6] w [(.one .bool)] (fun s w => R s w) = S4 g1 f2 a3 b4 c5 d6 w R := by kernel_rfl
  exact (fn_calls okF okM Tryz.func4 (by kernel_rfl) (by kernel_rfl) (e.mpr h)).mono fun _ _ ⟨s, he, hR⟩ => ⟨s, he, hR⟩

def S15L1 (a1 : Slc) (b2 : Slc) (R : Bool → World → Prop) (I5 : Int → World → Prop) (s3 : Int) (vw4 : World) : Prop :=
  Br (decide (s3 < ((a1.len : Nat) : Int))) (0 ≤ s3 ∧ s3 < (a1.len : Nat) ∧ Nn a1.p fun a6 =>
    LdT vw4.drew (a6.add ((s3).toNat * 9)) 0 LiA69 fun (x7 : TyA69) =>
    0 ≤ s3 ∧ s3 < (b2.len : Nat) ∧ Nn b2.p fun a8 =>
    LdT vw4.drew (a8.add ((s3).toNat * 9)) 0 LiA69 fun (x9 : TyA69) =>
    Lt (!((x7.1 == x9.1) && ((x7.2.1.toList == x9.2.1.toList) && (((x7.2.2.1 == x9.2.2.1) && ((x7.2.2.2.1 == x9.2.2.2.1) && true)) && (((x7.2.2.2.2.1 == x9.2.2.2.2.1) && ((x7.2.2.2.2.2.1 == x9.2.2.2.2.2.1) && true)) && ((x7.2.2.2.2.2.2.1 == x9.2.2.2.2.2.2.1) && ((x7.2.2.2.2.2.2.2.1.toList == x9.2.2.2.2.2.2.2.1.toList) && ((x7.2.2.2.2.2.2.2.2 == x9.2.2.2.2.2.2.2.2) && true)))))))) fun (x10 : Bool) =>
    Br x10 (R false vw4.drew) (I5 (IntKind.i64.wrap (s3 + 1)) vw4.drew)) (R true vw4)
/-- foliant/foliantref48.Same -/
def S15 (a1 : Slc) (b2 : Slc) (w : World) (R : Bool → World → Prop) : Prop :=
  Br (((a1.len : Nat) : Int) != ((b2.len : Nat) : Int)) (R false w) (Lp (σ := Int) (S15L1 a1 b2 R) 0 w)
def pl15 : Plan := (.seq (.reg .seq) (.seq (.seq (.reg .seq) (.cond (.seq (.reg .seq) .leaf) .leaf)) (.seq (.seq (.reg .seq) (.block (.loop [(13, (.one (.int .i64)))] [0, 1, 12] (.seq (.reg .seq) (.seq (.cond .leaf .leaf) (.seq (.block (.seq (.reg .seq) (.seq (.reg .still) (.cond (.seq (.reg .seq) .leaf) .leaf)))) (.reg .seq))))))) (.seq (.reg .seq) .leaf))))
set_option maxRecDepth 100000 in
theorem T15 (a1 : Slc) (b2 : Slc) (w : World) (R : Bool → World → Prop) (h : S15 a1 b2 w R) : C15 a1 b2 w R := by
  have e : fnT Tryz.prog ⟨FF, MAY, (fun _ _ => False)⟩ pl15 Tryz.f15 [Slc.v a1, Slc.v b2] w [(.one .bool)] (fun s w => R s w) = S15 a1 b2 w R := by kernel_rfl
  exact (fn_calls okF okM Tryz.func15 (by kernel_rfl) (by kernel_rfl) (e.mpr h)).mono fun _ _ ⟨s, he, hR⟩ => ⟨s, he, hR⟩

def S5J1 (w : World) (s4 : ByteArray) (t5 : ByteArray) (vw6 : World) (vw7 : World) (R : Bool → World → Prop) (s17 : Unit) (vw18 : World) : Prop :=
  LdT vw18 (⟨w.heap.size, 0, none⟩ : Addr) 0 LiA30 fun (x19 : TyA30) =>
  Ld vw18 (⟨vw6.heap.size, 0, none⟩ : Addr) (Value.int .i64) fun (x20 : Int) =>
  Ld vw18 ((⟨vw6.heap.size, 0, none⟩ : Addr).add 1) (Value.int .i64) fun (x21 : Int) =>
  Ld vw18 ((⟨vw6.heap.size, 0, none⟩ : Addr).add 2) (Value.int .i64) fun (x22 : Int) =>
  Ld vw18 ((⟨vw6.heap.size, 0, none⟩ : Addr).add 3) (Value.int .i64) fun (x23 : Int) =>
  Ld vw18 ((⟨vw6.heap.size, 0, none⟩ : Addr).add 4) (Value.int .i64) fun (x24 : Int) =>
  Ld vw18 ((⟨vw6.heap.size, 0, none⟩ : Addr).add 5) (Value.int .i64) fun (x25 : Int) =>
  LdT vw18 (⟨vw7.heap.size, 0, none⟩ : Addr) 0 LiA34 fun (x26 : TyA34) =>
  (((s4).size + (t5).size : Nat) : Int) ≤ IntKind.i64.max ∧ C23 x19 (x20, x21, x22, x23, x24, x25) x26 (s4 ++ t5) vw18 fun r27 r28 r29 vw30 =>
    Nw vw30 (.cells #[.int .i64 0, .int .i64 0, .int .i64 0, .int .i64 0, .int .i64 0, .int .i64 0] 24) fun vw31 =>
    St vw31 (⟨vw30.heap.size, 0, none⟩ : Addr) (.int .i64 (r28.1)) fun vw32 =>
    St vw32 ((⟨vw30.heap.size, 0, none⟩ : Addr).add 1) (.int .i64 (r28.2.1)) fun vw33 =>
    St vw33 ((⟨vw30.heap.size, 0, none⟩ : Addr).add 2) (.int .i64 (r28.2.2.1)) fun vw34 =>
    St vw34 ((⟨vw30.heap.size, 0, none⟩ : Addr).add 3) (.int .i64 (r28.2.2.2.1)) fun vw35 =>
    St vw35 ((⟨vw30.heap.size, 0, none⟩ : Addr).add 4) (.int .i64 (r28.2.2.2.2.1)) fun vw36 =>
    St vw36 ((⟨vw30.heap.size, 0, none⟩ : Addr).add 5) (.int .i64 (r28.2.2.2.2.2)) fun vw37 =>
    LdT vw37 (⟨w.heap.size, 0, none⟩ : Addr) 0 LiA30 fun (x38 : TyA30) =>
    Ld vw37 (⟨vw6.heap.size, 0, none⟩ : Addr) (Value.int .i64) fun (x39 : Int) =>
    Ld vw37 ((⟨vw6.heap.size, 0, none⟩ : Addr).add 1) (Value.int .i64) fun (x40 : Int) =>
    Ld vw37 ((⟨vw6.heap.size, 0, none⟩ : Addr).add 2) (Value.int .i64) fun (x41 : Int) =>
    Ld vw37 ((⟨vw6.heap.size, 0, none⟩ : Addr).add 3) (Value.int .i64) fun (x42 : Int) =>
    Ld vw37 ((⟨vw6.heap.size, 0, none⟩ : Addr).add 4) (Value.int .i64) fun (x43 : Int) =>
    Ld vw37 ((⟨vw6.heap.size, 0, none⟩ : Addr).add 5) (Value.int .i64) fun (x44 : Int) =>
    LdT vw37 (⟨vw7.heap.size, 0, none⟩ : Addr) 0 LiA34 fun (x45 : TyA34) =>
    C23 x38 (x39, x40, x41, x42, x43, x44) x45 s4 vw37 fun r46 r47 r48 vw49 =>
      Nw vw49 (.cells #[.int .i64 0, .int .i64 0, .int .i64 0, .int .i64 0, .int .i64 0, .int .i64 0] 24) fun vw50 =>
      St vw50 (⟨vw49.heap.size, 0, none⟩ : Addr) (.int .i64 (r47.1)) fun vw51 =>
      St vw51 ((⟨vw49.heap.size, 0, none⟩ : Addr).add 1) (.int .i64 (r47.2.1)) fun vw52 =>
      St vw52 ((⟨vw49.heap.size, 0, none⟩ : Addr).add 2) (.int .i64 (r47.2.2.1)) fun vw53 =>
      St vw53 ((⟨vw49.heap.size, 0, none⟩ : Addr).add 3) (.int .i64 (r47.2.2.2.1)) fun vw54 =>
      St vw54 ((⟨vw49.heap.size, 0, none⟩ : Addr).add 4) (.int .i64 (r47.2.2.2.2.1)) fun vw55 =>
      St vw55 ((⟨vw49.heap.size, 0, none⟩ : Addr).add 5) (.int .i64 (r47.2.2.2.2.2)) fun vw56 =>
      Br (r29 != 0) (Br (((r27.len : Nat) : Int) == 0) (Ld vw56 (⟨vw30.heap.size, 0, none⟩ : Addr) (Value.int .i64) fun (x64 : Int) =>
          Ld vw56 ((⟨vw30.heap.size, 0, none⟩ : Addr).add 1) (Value.int .i64) fun (x65 : Int) =>
          Ld vw56 ((⟨vw30.heap.size, 0, none⟩ : Addr).add 2) (Value.int .i64) fun (x66 : Int) =>
          Ld vw56 ((⟨vw30.heap.size, 0, none⟩ : Addr).add 3) (Value.int .i64) fun (x67 : Int) =>
          Ld vw56 ((⟨vw30.heap.size, 0, none⟩ : Addr).add 4) (Value.int .i64) fun (x68 : Int) =>
          Ld vw56 ((⟨vw30.heap.size, 0, none⟩ : Addr).add 5) (Value.int .i64) fun (x69 : Int) =>
          Lt (((x64 == 0) && ((x65 == 0) && ((x66 == 0) && ((x67 == 0) && ((x68 == 0) && ((x69 == 0) && true))))))) fun (x70 : Bool) =>
          R x70 vw56) (R false vw56)) (LdT vw56 (⟨w.heap.size, 0, none⟩ : Addr) 0 LiA30 fun (x71 : TyA30) =>
        Ld vw56 (⟨vw49.heap.size, 0, none⟩ : Addr) (Value.int .i64) fun (x72 : Int) =>
        Ld vw56 ((⟨vw49.heap.size, 0, none⟩ : Addr).add 1) (Value.int .i64) fun (x73 : Int) =>
        Ld vw56 ((⟨vw49.heap.size, 0, none⟩ : Addr).add 2) (Value.int .i64) fun (x74 : Int) =>
        Ld vw56 ((⟨vw49.heap.size, 0, none⟩ : Addr).add 3) (Value.int .i64) fun (x75 : Int) =>
        Ld vw56 ((⟨vw49.heap.size, 0, none⟩ : Addr).add 4) (Value.int .i64) fun (x76 : Int) =>
        Ld vw56 ((⟨vw49.heap.size, 0, none⟩ : Addr).add 5) (Value.int .i64) fun (x77 : Int) =>
        LdT vw56 (⟨vw7.heap.size, 0, none⟩ : Addr) 0 LiA34 fun (x78 : TyA34) =>
        C23 x71 (x72, x73, x74, x75, x76, x77) x78 t5 vw56 fun r79 r80 r81 vw82 =>
          Nw vw82 (.cells #[.int .i64 0, .int .i64 0, .int .i64 0, .int .i64 0, .int .i64 0, .int .i64 0] 24) fun vw83 =>
          St vw83 (⟨vw82.heap.size, 0, none⟩ : Addr) (.int .i64 (r80.1)) fun vw84 =>
          St vw84 ((⟨vw82.heap.size, 0, none⟩ : Addr).add 1) (.int .i64 (r80.2.1)) fun vw85 =>
          St vw85 ((⟨vw82.heap.size, 0, none⟩ : Addr).add 2) (.int .i64 (r80.2.2.1)) fun vw86 =>
          St vw86 ((⟨vw82.heap.size, 0, none⟩ : Addr).add 3) (.int .i64 (r80.2.2.2.1)) fun vw87 =>
          St vw87 ((⟨vw82.heap.size, 0, none⟩ : Addr).add 4) (.int .i64 (r80.2.2.2.2.1)) fun vw88 =>
          St vw88 ((⟨vw82.heap.size, 0, none⟩ : Addr).add 5) (.int .i64 (r80.2.2.2.2.2)) fun vw89 =>
          Br (r48 != 0) (R false vw89) (Br (r81 != 0) (R false vw89) (Nw vw89 (.cells #[] 70) fun vw110 =>
              Rn Tryz.prog (Builtin.append_ #[49, 49] 49 #[Slc.v ((⟨some ⟨vw89.heap.size, 0, none⟩, 0, 0⟩ : Slc)), Slc.v r46]) vw110 Slc.v fun (x111 : Slc) vw112 =>
              Rn Tryz.prog (Builtin.append_ #[49, 49] 49 #[Slc.v x111, Slc.v r79]) vw112 Slc.v fun (x113 : Slc) vw114 =>
              C15 r27 x113 vw114 fun r115 vw116 =>
                Br (!r115) (R false vw116) (Ld vw116 (⟨vw30.heap.size, 0, none⟩ : Addr) (Value.int .i64) fun (x117 : Int) =>
                  Ld vw116 ((⟨vw30.heap.size, 0, none⟩ : Addr).add 1) (Value.int .i64) fun (x118 : Int) =>
                  Ld vw116 ((⟨vw30.heap.size, 0, none⟩ : Addr).add 2) (Value.int .i64) fun (x119 : Int) =>
                  Ld vw116 ((⟨vw30.heap.size, 0, none⟩ : Addr).add 3) (Value.int .i64) fun (x120 : Int) =>
                  Ld vw116 ((⟨vw30.heap.size, 0, none⟩ : Addr).add 4) (Value.int .i64) fun (x121 : Int) =>
                  Ld vw116 ((⟨vw30.heap.size, 0, none⟩ : Addr).add 5) (Value.int .i64) fun (x122 : Int) =>
                  Ld vw116 (⟨vw82.heap.size, 0, none⟩ : Addr) (Value.int .i64) fun (x123 : Int) =>
                  Ld vw116 ((⟨vw82.heap.size, 0, none⟩ : Addr).add 1) (Value.int .i64) fun (x124 : Int) =>
                  Ld vw116 ((⟨vw82.heap.size, 0, none⟩ : Addr).add 2) (Value.int .i64) fun (x125 : Int) =>
                  Ld vw116 ((⟨vw82.heap.size, 0, none⟩ : Addr).add 3) (Value.int .i64) fun (x126 : Int) =>
                  Ld vw116 ((⟨vw82.heap.size, 0, none⟩ : Addr).add 4) (Value.int .i64) fun (x127 : Int) =>
                  Ld vw116 ((⟨vw82.heap.size, 0, none⟩ : Addr).add 5) (Value.int .i64) fun (x128 : Int) =>
                  Lt (!((x117 == x123) && ((x118 == x124) && ((x119 == x125) && ((x120 == x126) && ((x121 == x127) && ((x122 == x128) && true))))))) fun (x129 : Bool) =>
                  Br x129 (R false vw116) (C7 vw116 fun r130 vw131 =>
                      Ld vw131 (⟨vw6.heap.size, 0, none⟩ : Addr) (Value.int .i64) fun (x132 : Int) =>
                      Ld vw131 ((⟨vw6.heap.size, 0, none⟩ : Addr).add 1) (Value.int .i64) fun (x133 : Int) =>
                      Ld vw131 ((⟨vw6.heap.size, 0, none⟩ : Addr).add 2) (Value.int .i64) fun (x134 : Int) =>
                      Ld vw131 ((⟨vw6.heap.size, 0, none⟩ : Addr).add 3) (Value.int .i64) fun (x135 : Int) =>
                      Ld vw131 ((⟨vw6.heap.size, 0, none⟩ : Addr).add 4) (Value.int .i64) fun (x136 : Int) =>
                      Ld vw131 ((⟨vw6.heap.size, 0, none⟩ : Addr).add 5) (Value.int .i64) fun (x137 : Int) =>
                      C21 (x132, x133, x134, x135, x136, x137) vw131 fun r138 vw139 =>
                        Nw vw139 (.cells #[.int .i64 0, .int .i64 0, .int .i64 0, .string ((⟨#[]⟩ : ByteArray)), Slc.v ((⟨none, 0, 0⟩ : Slc)), Slc.v ((⟨none, 0, 0⟩ : Slc))] 61) fun vw140 =>
                        St vw140 (⟨vw139.heap.size, 0, none⟩ : Addr) (.int .i64 (r138.1)) fun vw141 =>
                        St vw141 ((⟨vw139.heap.size, 0, none⟩ : Addr).add 1) (.int .i64 (r138.2.1)) fun vw142 =>
                        St vw142 ((⟨vw139.heap.size, 0, none⟩ : Addr).add 2) (.int .i64 (r138.2.2.1)) fun vw143 =>
                        St vw143 ((⟨vw139.heap.size, 0, none⟩ : Addr).add 3) (.string r138.2.2.2.1) fun vw144 =>
                        St vw144 ((⟨vw139.heap.size, 0, none⟩ : Addr).add 4) (Slc.v r138.2.2.2.2.1) fun vw145 =>
                        St vw145 ((⟨vw139.heap.size, 0, none⟩ : Addr).add 5) (Slc.v r138.2.2.2.2.2) fun vw146 =>
                        LdT vw146 (⟨w.heap.size, 0, none⟩ : Addr) 0 LiA30 fun (x147 : TyA30) =>
                        LdT vw146 (⟨vw7.heap.size, 0, none⟩ : Addr) 0 LiA34 fun (x148 : TyA34) =>
                        C13 r130 ((⟨#[66, 84]⟩ : ByteArray), (⟨none, 0, 0⟩ : Slc), (⟨#[]⟩ : ByteArray)) x147 x148 vw146 fun r149 r150 vw151 =>
                          Ld vw151 ((⟨vw139.heap.size, 0, none⟩ : Addr).add 5) Slc.v fun (x152 : Slc) =>
                          LdT vw151 (⟨w.heap.size, 0, none⟩ : Addr) 0 LiA30 fun (x153 : TyA30) =>
                          LdT vw151 (⟨vw7.heap.size, 0, none⟩ : Addr) 0 LiA34 fun (x154 : TyA34) =>
                          C13 r130 ((⟨#[84, 109]⟩ : ByteArray), x152, (⟨#[]⟩ : ByteArray)) x153 x154 vw151 fun r155 r156 vw157 =>
                            Nw vw157 (.cells #[.int .i64 4, .int .i64 0, .int .i64 0, .string s4, Slc.v ((⟨none, 0, 0⟩ : Slc)), Slc.v ((⟨none, 0, 0⟩ : Slc)), .int .i64 4, .int .i64 0, .int .i64 0, .string t5, Slc.v ((⟨none, 0, 0⟩ : Slc)), Slc.v ((⟨none, 0, 0⟩ : Slc))] 61) fun vw158 =>
                            Nw vw158 (.cells #[.int .i64 6, .int .i64 0, .int .i64 0, .string ((⟨#[]⟩ : ByteArray)), Slc.v ((⟨none, 0, 0⟩ : Slc)), Slc.v ((⟨some ⟨vw157.heap.size, 0, none⟩, 2, 2⟩ : Slc))] 61) fun vw159 =>
                            LdT vw159 (⟨w.heap.size, 0, none⟩ : Addr) 0 LiA30 fun (x160 : TyA30) =>
                            LdT vw159 (⟨vw7.heap.size, 0, none⟩ : Addr) 0 LiA34 fun (x161 : TyA34) =>
                            C13 r130 ((⟨#[84, 74]⟩ : ByteArray), (⟨some ⟨vw158.heap.size, 0, none⟩, 1, 1⟩ : Slc), (⟨#[]⟩ : ByteArray)) x160 x161 vw159 fun r162 r163 vw164 =>
                              Br (r150 == 0) (Br (r156 == 0) (Br (r163 == 0) (C15 r162 r27 vw164.drew fun r165 vw166 =>
                                      ∃ vS167 : World → Prop, vS167 vw166 ∧ Br r165 (LdS vS167 (⟨vw30.heap.size, 0, none⟩ : Addr) (Value.int .i64) fun (x168 : Int) =>
                                        LdS vS167 ((⟨vw30.heap.size, 0, none⟩ : Addr).add 1) (Value.int .i64) fun (x169 : Int) =>
                                        LdS vS167 ((⟨vw30.heap.size, 0, none⟩ : Addr).add 2) (Value.int .i64) fun (x170 : Int) =>
                                        LdS vS167 ((⟨vw30.heap.size, 0, none⟩ : Addr).add 3) (Value.int .i64) fun (x171 : Int) =>
                                        LdS vS167 ((⟨vw30.heap.size, 0, none⟩ : Addr).add 4) (Value.int .i64) fun (x172 : Int) =>
                                        LdS vS167 ((⟨vw30.heap.size, 0, none⟩ : Addr).add 5) (Value.int .i64) fun (x173 : Int) =>
                                        C17 r130 vw166 fun r174 vw175 =>
                                          vS167 vw175 ∧ R ((r174.1 == x168) && ((r174.2.1 == x169) && ((r174.2.2.1 == x170) && ((r174.2.2.2.1 == x171) && ((r174.2.2.2.2.1 == x172) && ((r174.2.2.2.2.2 == x173) && true)))))) vw175) (R false vw166)) (∃ vS176 : World → Prop, vS176 vw164.drew ∧ R false vw164.drew)) (∃ vS177 : World → Prop, vS177 vw164.drew ∧ R false vw164.drew)) (∃ vS178 : World → Prop, vS178 vw164.drew ∧ R false vw164.drew))))))
/-- foliant/foliantlaw48.ShowPieces -/
def S5 (g1 : TyA30) (m2 : Int × Int × Int × Int × Int × Int) (f3 : TyA34) (s4 : ByteArray) (t5 : ByteArray) (w : World) (R : Bool → World → Prop) : Prop :=
  Nw w (.cells (Sig.cells LiA30 g1).toArray 31) fun vw6 =>
  Nw vw6 (.cells #[.int .i64 (m2.1), .int .i64 (m2.2.1), .int .i64 (m2.2.2.1), .int .i64 (m2.2.2.2.1), .int .i64 (m2.2.2.2.2.1), .int .i64 (m2.2.2.2.2.2)] 24) fun vw7 =>
  Nw vw7 (.cells (Sig.cells LiA34 f3).toArray 35) fun vw8 =>
  C10 vw8 fun r11 vw12 =>
    Br (!r11) (R false vw12) (Join (S5J1 w s4 t5 vw6 vw7 R) fun (vJ179 : Unit → World → Prop) =>
        LdT vw12 (⟨vw7.heap.size, 0, none⟩ : Addr) 0 LiA34 fun (x180 : TyA34) =>
        C9 (⟨none, 0, 0⟩ : Slc) x180 vw12 fun r181 vw182 =>
          Br (!r181) (R true vw182) (Br (decide ((((s4).size : Nat) : Int) > 100)) (R true vw182) (Br (decide ((((t5).size : Nat) : Int) > 100)) (R true vw182) (Ld vw182 ((⟨vw7.heap.size, 0, none⟩ : Addr).add 1) Value.bool fun (x183 : Bool) =>
                Br x183 (Br ((Int.tmod (((s4).size : Nat) : Int) 2) != 0) (R true vw182) (vJ179 () vw182)) (vJ179 () vw182)))))
def pl5 : Plan := (.seq (.reg .seq) (.seq (.seq (.reg .seq) (.cond (.seq (.reg .seq) .leaf) .leaf)) (.join [] [3, 4, 5, 6, 7] (.seq (.reg .seq) (.cond (.seq (.reg .seq) .leaf) .leaf)) (.seq (.reg .seq) (.seq (.reg .seq) (.seq (.seq (.reg .seq) (.cond (.seq (.reg .seq) .leaf) .leaf)) (.seq (.reg .seq) (.seq (.seq (.reg .seq) (.cond (.seq (.reg .seq) .leaf) .leaf)) (.seq (.reg .seq) (.seq (.reg .seq) (.seq (.reg .seq) (.seq (.reg .seq) (.seq (.reg .seq) (.seq (.reg (.held [13] (.take 0 (.take 1 (.take 2 (.take 3 (.take 4 (.take 5 (.take 6 (.take 7 (.take 8 (.take 9 (.take 10 (.take 11 (.take 12 (.eff 13 (some []) (.take 14 (.take 15 (.take 16 (.take 18 (.eff 17 none (.take 19 (.take 20 (.take 21 .done)))))))))))))))))))))))) .leaf))))))))))))))
set_option maxRecDepth 100000 in
theorem T5 (g1 : TyA30) (m2 : Int × Int × Int × Int × Int × Int) (f3 : TyA34) (s4 : ByteArray) (t5 : ByteArray) (w : World) (R : Bool → World → Prop) (h : S5 g1 m2 f3 s4 t5 w R) : C5 g1 (m2.1, m2.2.1, m2.2.2.1, m2.2.2.2.1, m2.2.2.2.2.1, m2.2.2.2.2.2) f3 s4 t5 w R := by
  have e : fnT Tryz.prog ⟨FF, MAY, (fun _ _ => False)⟩ pl5 Tryz.f5 [.agg (Sig.cells LiA30 g1).toArray, .agg #[.int .i64 (m2.1), .int .i64 (m2.2.1), .int .i64 (m2.2.2.1), .int .i64 (m2.2.2.2.1), .int .i64 (m2.2.2.2.2.1), .int .i64 (m2.2.2.2.2.2)], .agg (Sig.cells LiA34 f3).toArray, .string s4, .string t5] w [(.one .bool)] (fun s w => R s w) = S5 g1 m2 f3 s4 t5 w R := by kernel_rfl
  exact (fn_calls okF okM Tryz.func5 (by kernel_rfl) (by kernel_rfl) (e.mpr h)).mono fun _ _ ⟨s, he, hR⟩ => ⟨s, he, hR⟩

end Go.Proofs.YtcblpehnkogfdaaGreatDoor
