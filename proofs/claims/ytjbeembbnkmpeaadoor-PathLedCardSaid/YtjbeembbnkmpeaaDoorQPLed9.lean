/- The formulas of 2 functions of the program, written by program (gen.py); the kernel checks each. No condition. -/
import Derived.Test.YtjbeembbnkmpeaaDoorQPLed2
import Derived.Test.YtjbeembbnkmpeaaDoorQPLed3
import Derived.Test.YtjbeembbnkmpeaaDoorQPLed4
import Derived.Test.YtjbeembbnkmpeaaDoorQPLed5
import Derived.Test.YtjbeembbnkmpeaaDoorQPLed7
import Derived.Test.YtjbeembbnkmpeaaDoorQPLed8
namespace Go.Proofs.YtjbeembbnkmpeaaDoor
open Sh
set_option linter.unusedVariables false
set_option maxRecDepth 100000

def C5 (l1 : Slc) (m2 : Int × Int × Int × Int × Int × Int) (g3 : TyA29) (w : World) (R : Bool → World → Prop) : Prop :=
  Calls Tryd.prog 5 #[Slc.v l1, .agg #[.int .i64 (m2.1), .int .i64 (m2.2.1), .int .i64 (m2.2.2.1), .int .i64 (m2.2.2.2.1), .int .i64 (m2.2.2.2.2.1), .int .i64 (m2.2.2.2.2.2)], .agg (Sig.cells LiA29 g3).toArray] w fun e w' => ∃ r0 : Bool, e = .returned (.bool r0) ∧ R r0 w'
theorem C5.mono {l1 : Slc} {m2 : Int × Int × Int × Int × Int × Int} {g3 : TyA29} {w : World} {R R' : Bool → World → Prop} (h : C5 l1 m2 g3 w R) (hr : ∀ r0 w', R r0 w' → R' r0 w') : C5 l1 m2 g3 w R' :=
  Calls.mono h fun _ _ ⟨r0, he, hR⟩ => ⟨r0, he, hr _ _ hR⟩
def C8 (l1 : Slc) (m2 : Int × Int × Int × Int × Int × Int) (w : World) (R : Bool → World → Prop) : Prop :=
  Calls Tryd.prog 8 #[Slc.v l1, .agg #[.int .i64 (m2.1), .int .i64 (m2.2.1), .int .i64 (m2.2.2.1), .int .i64 (m2.2.2.2.1), .int .i64 (m2.2.2.2.2.1), .int .i64 (m2.2.2.2.2.2)]] w fun e w' => ∃ r0 : Bool, e = .returned (.bool r0) ∧ R r0 w'
theorem C8.mono {l1 : Slc} {m2 : Int × Int × Int × Int × Int × Int} {w : World} {R R' : Bool → World → Prop} (h : C8 l1 m2 w R) (hr : ∀ r0 w', R r0 w' → R' r0 w') : C8 l1 m2 w R' :=
  Calls.mono h fun _ _ ⟨r0, he, hR⟩ => ⟨r0, he, hr _ _ hR⟩

def S5J1 (r6 : Option Addr) (vw7 : World) (s19 : Int) (I21 : Int → World → Prop) (R : Bool → World → Prop) (s99 : Unit) (vw100 : World) : Prop :=
  C25 r6 vw100 fun r101 vw102 =>
    C29 r101 vw102 fun r103 r104 vw105 =>
      Nw vw105 (.cells #[.int .i64 0, .int .i64 0, .int .i64 0, .int .i64 0] 72) fun vw106 =>
      St vw106 (⟨vw105.heap.size, 0, none⟩ : Addr) (.int .i64 (r103.1)) fun vw107 =>
      St vw107 ((⟨vw105.heap.size, 0, none⟩ : Addr).add 1) (.int .i64 (r103.2.1)) fun vw108 =>
      St vw108 ((⟨vw105.heap.size, 0, none⟩ : Addr).add 2) (.int .i64 (r103.2.2.1)) fun vw109 =>
      St vw109 ((⟨vw105.heap.size, 0, none⟩ : Addr).add 3) (.int .i64 (r103.2.2.2)) fun vw110 =>
      Ld vw110 (⟨vw7.heap.size, 0, none⟩ : Addr) Slc.v fun (x111 : Slc) =>
      C39 x111 vw110 fun r112 r113 vw114 =>
        Nw vw114 (.cells #[.int .i64 0, .int .i64 0, .int .i64 0, .int .i64 0] 72) fun vw115 =>
        St vw115 (⟨vw114.heap.size, 0, none⟩ : Addr) (.int .i64 (r112.1)) fun vw116 =>
        St vw116 ((⟨vw114.heap.size, 0, none⟩ : Addr).add 1) (.int .i64 (r112.2.1)) fun vw117 =>
        St vw117 ((⟨vw114.heap.size, 0, none⟩ : Addr).add 2) (.int .i64 (r112.2.2.1)) fun vw118 =>
        St vw118 ((⟨vw114.heap.size, 0, none⟩ : Addr).add 3) (.int .i64 (r112.2.2.2)) fun vw119 =>
        ∃ vS120 : World → Prop, vS120 vw119.drew ∧ LdS vS120 (⟨vw7.heap.size, 0, none⟩ : Addr) Slc.v fun (x121 : Slc) =>
        C40 r101 x121 vw119.drew fun r122 vw123 =>
          ∃ vS124 : World → Prop, vS124 vw123 ∧ Br (!r122) (R false vw123) (LdS vS124 (⟨vw105.heap.size, 0, none⟩ : Addr) (Value.int .i64) fun (x125 : Int) =>
            LdS vS124 ((⟨vw105.heap.size, 0, none⟩ : Addr).add 1) (Value.int .i64) fun (x126 : Int) =>
            LdS vS124 ((⟨vw105.heap.size, 0, none⟩ : Addr).add 2) (Value.int .i64) fun (x127 : Int) =>
            LdS vS124 ((⟨vw105.heap.size, 0, none⟩ : Addr).add 3) (Value.int .i64) fun (x128 : Int) =>
            LdS vS124 (⟨vw114.heap.size, 0, none⟩ : Addr) (Value.int .i64) fun (x129 : Int) =>
            LdS vS124 ((⟨vw114.heap.size, 0, none⟩ : Addr).add 1) (Value.int .i64) fun (x130 : Int) =>
            LdS vS124 ((⟨vw114.heap.size, 0, none⟩ : Addr).add 2) (Value.int .i64) fun (x131 : Int) =>
            LdS vS124 ((⟨vw114.heap.size, 0, none⟩ : Addr).add 3) (Value.int .i64) fun (x132 : Int) =>
            Br (!((x125 == x129) && ((x126 == x130) && ((x127 == x131) && ((x128 == x132) && true))))) (R false vw123) (Br (!(r104 == r113)) (R false vw123) (LdS vS124 (⟨vw7.heap.size, 0, none⟩ : Addr) Slc.v fun (x133 : Slc) =>
                LdS vS124 (⟨vw7.heap.size, 0, none⟩ : Addr) Slc.v fun (x134 : Slc) =>
                C28 r101 x133 vw123 fun r135 vw136 =>
                  vS124 vw136 ∧ C40 r101 x134 vw136 fun r137 vw138 =>
                    Br (!(r135 == r137)) (R false vw138) (I21 (IntKind.i64.wrap (s19 + 1)) vw138))))
def S5L1 (w : World) (l1 : Slc) (vw4 : World) (r6 : Option Addr) (vw7 : World) (R : Bool → World → Prop) (I21 : Int → World → Prop) (s19 : Int) (vw20 : World) : Prop :=
  Br (decide (s19 < ((l1.len : Nat) : Int))) (0 ≤ s19 ∧ s19 < (l1.len : Nat) ∧ Nn l1.p fun a22 =>
    Ld vw20 (a22.add ((s19).toNat * 3)) Value.string fun (x23 : ByteArray) =>
    Ld vw20 ((a22.add ((s19).toNat * 3)).add 1) Slc.v fun (x24 : Slc) =>
    Ld vw20 ((a22.add ((s19).toNat * 3)).add 2) Value.string fun (x25 : ByteArray) =>
    Nw vw20 (.cells #[.string ((⟨#[]⟩ : ByteArray)), Slc.v ((⟨none, 0, 0⟩ : Slc)), .string ((⟨#[]⟩ : ByteArray))] 63) fun vw26 =>
    St vw26 (⟨vw20.heap.size, 0, none⟩ : Addr) (.string x23) fun vw27 =>
    St vw27 ((⟨vw20.heap.size, 0, none⟩ : Addr).add 1) (Slc.v x24) fun vw28 =>
    St vw28 ((⟨vw20.heap.size, 0, none⟩ : Addr).add 2) (.string x25) fun vw29 =>
    Join (S5J1 r6 vw7 s19 I21 R) fun (vJ139 : Unit → World → Prop) =>
      Ld vw29 (⟨vw20.heap.size, 0, none⟩ : Addr) Value.string fun (x140 : ByteArray) =>
      C35 x140 vw29 fun r141 vw142 =>
        Br r141 (Ld vw142 (⟨vw20.heap.size, 0, none⟩ : Addr) Value.string fun (x143 : ByteArray) =>
          Ld vw142 ((⟨vw20.heap.size, 0, none⟩ : Addr).add 1) Slc.v fun (x144 : Slc) =>
          Ld vw142 ((⟨vw20.heap.size, 0, none⟩ : Addr).add 2) Value.string fun (x145 : ByteArray) =>
          LdT vw142 (⟨vw4.heap.size, 0, none⟩ : Addr) 0 LiA29 fun (x146 : TyA29) =>
          C30 r6 (x143, x144, x145) x146 vw142 fun r147 r148 r149 vw150 =>
            Nw vw150 (.cells #[.int .i64 0, Slc.v ((⟨none, 0, 0⟩ : Slc)), .int .i64 0, .int .i64 0, .int .i64 0, .int .i64 0, .int .i64 0, .int .i64 0, .int .i64 0, .int .i64 0, .int .i64 0, .int .i64 0] 76) fun vw151 =>
            StT (⟨vw150.heap.size, 0, none⟩ : Addr) 0 LiA75 r147 vw151 fun vw152 =>
            Ld vw152 (⟨vw7.heap.size, 0, none⟩ : Addr) Slc.v fun (x153 : Slc) =>
            Ld vw152 ((⟨vw7.heap.size, 0, none⟩ : Addr).add 1) Value.bool fun (x154 : Bool) =>
            Ld vw152 (⟨vw20.heap.size, 0, none⟩ : Addr) Value.string fun (x155 : ByteArray) =>
            Ld vw152 ((⟨vw20.heap.size, 0, none⟩ : Addr).add 1) Slc.v fun (x156 : Slc) =>
            Ld vw152 ((⟨vw20.heap.size, 0, none⟩ : Addr).add 2) Value.string fun (x157 : ByteArray) =>
            LdT vw152 (⟨vw4.heap.size, 0, none⟩ : Addr) 0 LiA29 fun (x158 : TyA29) =>
            C36 (x153, x154) (x155, x156, x157) x158 vw152 fun r159 r160 r161 r162 vw163 =>
              Nw vw163 (.cells #[Slc.v ((⟨none, 0, 0⟩ : Slc)), .bool false] 86) fun vw164 =>
              Nw vw164 (.cells #[.int .i64 0, Slc.v ((⟨none, 0, 0⟩ : Slc)), .int .i64 0, .int .i64 0, .int .i64 0, .int .i64 0, .int .i64 0, .int .i64 0, .int .i64 0, .int .i64 0, .int .i64 0, .int .i64 0] 76) fun vw165 =>
              St vw165 (⟨vw163.heap.size, 0, none⟩ : Addr) (Slc.v r159.1) fun vw166 =>
              St vw166 ((⟨vw163.heap.size, 0, none⟩ : Addr).add 1) (.bool r159.2) fun vw167 =>
              StT (⟨vw164.heap.size, 0, none⟩ : Addr) 0 LiA75 r160 vw167 fun vw168 =>
              LdT vw168 (⟨vw150.heap.size, 0, none⟩ : Addr) 0 LiA75 fun (x169 : TyA75) =>
              LdT vw168 (⟨vw164.heap.size, 0, none⟩ : Addr) 0 LiA75 fun (x170 : TyA75) =>
              C37 x169 x170 vw168 fun r171 vw172 =>
                Br (!r171) (R false vw172) (Br (!(r148 == r161)) (R false vw172) (Br (r149 != r162) (R false vw172) (Ld vw172 (⟨vw163.heap.size, 0, none⟩ : Addr) Slc.v fun (x173 : Slc) =>
                      Ld vw172 ((⟨vw163.heap.size, 0, none⟩ : Addr).add 1) Value.bool fun (x174 : Bool) =>
                      St vw172 (⟨vw7.heap.size, 0, none⟩ : Addr) (Slc.v x173) fun vw175 =>
                      St vw175 ((⟨vw7.heap.size, 0, none⟩ : Addr).add 1) (.bool x174) fun vw176 =>
                      vJ139 () vw176)))) (Ld vw142 (⟨vw20.heap.size, 0, none⟩ : Addr) Value.string fun (x177 : ByteArray) =>
          Ld vw142 ((⟨vw20.heap.size, 0, none⟩ : Addr).add 1) Slc.v fun (x178 : Slc) =>
          Ld vw142 ((⟨vw20.heap.size, 0, none⟩ : Addr).add 2) Value.string fun (x179 : ByteArray) =>
          Ld vw142 (⟨w.heap.size, 0, none⟩ : Addr) (Value.int .i64) fun (x180 : Int) =>
          Ld vw142 ((⟨w.heap.size, 0, none⟩ : Addr).add 1) (Value.int .i64) fun (x181 : Int) =>
          Ld vw142 ((⟨w.heap.size, 0, none⟩ : Addr).add 2) (Value.int .i64) fun (x182 : Int) =>
          Ld vw142 ((⟨w.heap.size, 0, none⟩ : Addr).add 3) (Value.int .i64) fun (x183 : Int) =>
          Ld vw142 ((⟨w.heap.size, 0, none⟩ : Addr).add 4) (Value.int .i64) fun (x184 : Int) =>
          Ld vw142 ((⟨w.heap.size, 0, none⟩ : Addr).add 5) (Value.int .i64) fun (x185 : Int) =>
          C23 r6 (x177, x178, x179) (x180, x181, x182, x183, x184, x185) vw142 fun r186 vw187 =>
            Ld vw187 (⟨vw7.heap.size, 0, none⟩ : Addr) Slc.v fun (x188 : Slc) =>
            Ld vw187 ((⟨vw7.heap.size, 0, none⟩ : Addr).add 1) Value.bool fun (x189 : Bool) =>
            Ld vw187 (⟨vw20.heap.size, 0, none⟩ : Addr) Value.string fun (x190 : ByteArray) =>
            Ld vw187 ((⟨vw20.heap.size, 0, none⟩ : Addr).add 1) Slc.v fun (x191 : Slc) =>
            Ld vw187 ((⟨vw20.heap.size, 0, none⟩ : Addr).add 2) Value.string fun (x192 : ByteArray) =>
            Ld vw187 (⟨w.heap.size, 0, none⟩ : Addr) (Value.int .i64) fun (x193 : Int) =>
            Ld vw187 ((⟨w.heap.size, 0, none⟩ : Addr).add 1) (Value.int .i64) fun (x194 : Int) =>
            Ld vw187 ((⟨w.heap.size, 0, none⟩ : Addr).add 2) (Value.int .i64) fun (x195 : Int) =>
            Ld vw187 ((⟨w.heap.size, 0, none⟩ : Addr).add 3) (Value.int .i64) fun (x196 : Int) =>
            Ld vw187 ((⟨w.heap.size, 0, none⟩ : Addr).add 4) (Value.int .i64) fun (x197 : Int) =>
            Ld vw187 ((⟨w.heap.size, 0, none⟩ : Addr).add 5) (Value.int .i64) fun (x198 : Int) =>
            C38 (x188, x189) (x190, x191, x192) (x193, x194, x195, x196, x197, x198) vw187 fun r199 r200 vw201 =>
              Nw vw201 (.cells #[Slc.v ((⟨none, 0, 0⟩ : Slc)), .bool false] 86) fun vw202 =>
              St vw202 (⟨vw201.heap.size, 0, none⟩ : Addr) (Slc.v r199.1) fun vw203 =>
              St vw203 ((⟨vw201.heap.size, 0, none⟩ : Addr).add 1) (.bool r199.2) fun vw204 =>
              Br (r186 != r200) (R false vw204) (Ld vw204 (⟨vw201.heap.size, 0, none⟩ : Addr) Slc.v fun (x205 : Slc) =>
                Ld vw204 ((⟨vw201.heap.size, 0, none⟩ : Addr).add 1) Value.bool fun (x206 : Bool) =>
                St vw204 (⟨vw7.heap.size, 0, none⟩ : Addr) (Slc.v x205) fun vw207 =>
                St vw207 ((⟨vw7.heap.size, 0, none⟩ : Addr).add 1) (.bool x206) fun vw208 =>
                vJ139 () vw208))) (C34 vw20 fun r209 vw210 =>
      R r209 vw210)
/-- foliant/foliantlaw45.PathDoes -/
def S5 (l1 : Slc) (m2 : Int × Int × Int × Int × Int × Int) (g3 : TyA29) (w : World) (R : Bool → World → Prop) : Prop :=
  Nw w (.cells #[.int .i64 (m2.1), .int .i64 (m2.2.1), .int .i64 (m2.2.2.1), .int .i64 (m2.2.2.2.1), .int .i64 (m2.2.2.2.2.1), .int .i64 (m2.2.2.2.2.2)] 23) fun vw4 =>
  Nw vw4 (.cells (Sig.cells LiA29 g3).toArray 30) fun vw5 =>
  C22 vw5 fun r6 vw7 =>
    Nw vw7 (.cells #[Slc.v ((⟨none, 0, 0⟩ : Slc)), .bool false] 86) fun vw8 =>
    St vw8 (⟨vw7.heap.size, 0, none⟩ : Addr) (Slc.v ((⟨none, 0, 0⟩ : Slc))) fun vw9 =>
    St vw9 ((⟨vw7.heap.size, 0, none⟩ : Addr).add 1) (.bool false) fun vw10 =>
    Br r6.isNone (R false vw10) (C33 l1 vw10 fun r15 vw16 =>
        Br (!r15) (C34 vw16 fun r17 vw18 =>
            R r17 vw18) (Lp (σ := Int) (S5L1 w l1 vw4 r6 vw7 R) 0 vw16))
def pl5 : Plan := (.seq (.reg .seq) (.seq (.reg .seq) (.seq (.seq (.reg .seq) (.cond (.seq (.reg .seq) .leaf) .leaf)) (.seq (.seq (.reg .seq) (.cond (.seq (.reg .seq) .leaf) .leaf)) (.seq (.seq (.reg .seq) (.block (.loop [(36, (.one (.int .i64)))] [4, 5, 7, 8, 34, 35] (.seq (.reg .seq) (.seq (.cond .leaf .leaf) (.seq (.block (.seq (.reg .seq) (.join [] [4, 5, 7, 8, 34, 35, 36] (.seq (.reg .seq) (.cond (.seq (.reg .seq) (.seq (.reg .seq) (.seq (.seq (.reg .seq) (.cond (.seq (.reg .seq) .leaf) .leaf)) (.reg .seq)))) (.seq (.reg .seq) (.seq (.reg .seq) (.seq (.seq (.reg .seq) (.cond (.seq (.reg .seq) .leaf) .leaf)) (.reg .seq)))))) (.seq (.reg .seq) (.seq (.reg .seq) (.seq (.reg .seq) (.seq (.reg (.held [3] (.take 0 (.take 1 (.take 2 (.eff 3 (some [23]) (.take 4 (.take 5 (.take 6 (.take 7 (.take 8 (.take 9 (.take 10 (.take 11 (.take 12 (.take 13 (.take 14 (.take 15 (.take 16 (.take 17 (.take 18 (.take 20 (.take 21 (.take 22 (.eff 19 none (.eff 23 (some []) (.take 24 (.take 25 .done)))))))))))))))))))))))))))) (.cond (.seq (.reg .seq) .leaf) .leaf)))))))) (.reg .seq))))))) (.seq (.reg .seq) .leaf))))))
set_option maxRecDepth 100000 in
theorem T5 (l1 : Slc) (m2 : Int × Int × Int × Int × Int × Int) (g3 : TyA29) (w : World) (R : Bool → World → Prop) (h : S5 l1 m2 g3 w R) : C5 l1 (m2.1, m2.2.1, m2.2.2.1, m2.2.2.2.1, m2.2.2.2.2.1, m2.2.2.2.2.2) g3 w R := by
  have e : fnT Tryd.prog ⟨FF, MAY, (fun _ _ => False)⟩ pl5 Tryd.f5 [Slc.v l1, .agg #[.int .i64 (m2.1), .int .i64 (m2.2.1), .int .i64 (m2.2.2.1), .int .i64 (m2.2.2.2.1), .int .i64 (m2.2.2.2.2.1), .int .i64 (m2.2.2.2.2.2)], .agg (Sig.cells LiA29 g3).toArray] w [(.one .bool)] (fun s w => R s w) = S5 l1 m2 g3 w R := by kernel_rfl
  exact (fn_calls okF okM Tryd.func5 (by kernel_rfl) (by kernel_rfl) (e.mpr h)).mono fun _ _ ⟨s, he, hR⟩ => ⟨s, he, hR⟩

def S8J1 (r58 : Slc) (r60 : Slc) (s62 : Int) (I64 : Int → World → Prop) (s87 : Addr × Int) (s111 : Addr × Int) (R : Bool → World → Prop) (s135 : Addr × Int) (vw136 : World) : Prop :=
  0 ≤ s62 ∧ s62 < (r58.len : Nat) ∧ Nn r58.p fun a137 =>
  Ld vw136.drew (a137.add ((s62).toNat * 7)) (Value.int .i64) fun (x138 : Int) =>
  0 ≤ s62 ∧ s62 < (r60.len : Nat) ∧ Nn r60.p fun a139 =>
  Ld vw136.drew (a139.add ((s62).toNat * 7)) (Value.int .i64) fun (x140 : Int) =>
  Br (x138 != x140) (R false vw136.drew) (0 ≤ s62 ∧ s62 < (r58.len : Nat) ∧ Nn r58.p fun a141 =>
    Ld vw136.drew (a141.add ((s62).toNat * 7)) (Value.int .i64) fun (x142 : Int) =>
    Br (x142 != 4) (Br (s135.2 != 0) (R false vw136.drew) (Ld vw136.drew s135.1 (Value.int .i64) fun (x143 : Int) =>
        Ld vw136.drew (s135.1.add 1) (Value.int .i64) fun (x144 : Int) =>
        0 ≤ s62 ∧ s62 < (r60.len : Nat) ∧ Nn r60.p fun a145 =>
        Ld vw136.drew ((a145.add ((s62).toNat * 7)).add 5) (Value.int .i64) fun (x146 : Int) =>
        Ld vw136.drew (((a145.add ((s62).toNat * 7)).add 5).add 1) (Value.int .i64) fun (x147 : Int) =>
        Br (!((x143 == x146) && ((x144 == x147) && true))) (R false vw136.drew) (0 ≤ s62 ∧ s62 < (r58.len : Nat) ∧ Nn r58.p fun a148 =>
          Ld vw136.drew (a148.add ((s62).toNat * 7)) (Value.int .i64) fun (x149 : Int) =>
          Br (x149 == 3) (Br (s87.2 != 0) (R false vw136.drew) (Br (s111.2 != 0) (R false vw136.drew) (Ld vw136.drew s87.1 (Value.int .i64) fun (x150 : Int) =>
                Ld vw136.drew (s87.1.add 1) (Value.int .i64) fun (x151 : Int) =>
                0 ≤ s62 ∧ s62 < (r60.len : Nat) ∧ Nn r60.p fun a152 =>
                Ld vw136.drew ((a152.add ((s62).toNat * 7)).add 1) (Value.int .i64) fun (x153 : Int) =>
                Ld vw136.drew (((a152.add ((s62).toNat * 7)).add 1).add 1) (Value.int .i64) fun (x154 : Int) =>
                Br (!((x150 == x153) && ((x151 == x154) && true))) (R false vw136.drew) (Ld vw136.drew s111.1 (Value.int .i64) fun (x155 : Int) =>
                  Ld vw136.drew (s111.1.add 1) (Value.int .i64) fun (x156 : Int) =>
                  0 ≤ s62 ∧ s62 < (r60.len : Nat) ∧ Nn r60.p fun a157 =>
                  Ld vw136.drew ((a157.add ((s62).toNat * 7)).add 3) (Value.int .i64) fun (x158 : Int) =>
                  Ld vw136.drew (((a157.add ((s62).toNat * 7)).add 3).add 1) (Value.int .i64) fun (x159 : Int) =>
                  Br (!((x155 == x158) && ((x156 == x159) && true))) (R false vw136.drew) (I64 (IntKind.i64.wrap (s62 + 1)) vw136.drew))))) (I64 (IntKind.i64.wrap (s62 + 1)) vw136.drew)))) (0 ≤ s62 ∧ s62 < (r58.len : Nat) ∧ Nn r58.p fun a160 =>
      Ld vw136.drew (a160.add ((s62).toNat * 7)) (Value.int .i64) fun (x161 : Int) =>
      Br (x161 == 3) (Br (s87.2 != 0) (R false vw136.drew) (Br (s111.2 != 0) (R false vw136.drew) (Ld vw136.drew s87.1 (Value.int .i64) fun (x162 : Int) =>
            Ld vw136.drew (s87.1.add 1) (Value.int .i64) fun (x163 : Int) =>
            0 ≤ s62 ∧ s62 < (r60.len : Nat) ∧ Nn r60.p fun a164 =>
            Ld vw136.drew ((a164.add ((s62).toNat * 7)).add 1) (Value.int .i64) fun (x165 : Int) =>
            Ld vw136.drew (((a164.add ((s62).toNat * 7)).add 1).add 1) (Value.int .i64) fun (x166 : Int) =>
            Br (!((x162 == x165) && ((x163 == x166) && true))) (R false vw136.drew) (Ld vw136.drew s111.1 (Value.int .i64) fun (x167 : Int) =>
              Ld vw136.drew (s111.1.add 1) (Value.int .i64) fun (x168 : Int) =>
              0 ≤ s62 ∧ s62 < (r60.len : Nat) ∧ Nn r60.p fun a169 =>
              Ld vw136.drew ((a169.add ((s62).toNat * 7)).add 3) (Value.int .i64) fun (x170 : Int) =>
              Ld vw136.drew (((a169.add ((s62).toNat * 7)).add 3).add 1) (Value.int .i64) fun (x171 : Int) =>
              Br (!((x167 == x170) && ((x168 == x171) && true))) (R false vw136.drew) (I64 (IntKind.i64.wrap (s62 + 1)) vw136.drew))))) (I64 (IntKind.i64.wrap (s62 + 1)) vw136.drew)))
def S8J2 (w : World) (r58 : Slc) (r60 : Slc) (s62 : Int) (I64 : Int → World → Prop) (s87 : Addr × Int) (R : Bool → World → Prop) (s111 : Addr × Int) (vw112 : World) : Prop :=
  Join (S8J1 r58 r60 s62 I64 s87 s111 R) fun (vJ172 : (Addr × Int) → World → Prop) =>
    ∃ vS173 : World → Prop, vS173 vw112.drew ∧ LdS vS173 (⟨w.heap.size, 0, none⟩ : Addr) (Value.int .i64) fun (x174 : Int) =>
    LdS vS173 ((⟨w.heap.size, 0, none⟩ : Addr).add 1) (Value.int .i64) fun (x175 : Int) =>
    LdS vS173 ((⟨w.heap.size, 0, none⟩ : Addr).add 2) (Value.int .i64) fun (x176 : Int) =>
    LdS vS173 ((⟨w.heap.size, 0, none⟩ : Addr).add 3) (Value.int .i64) fun (x177 : Int) =>
    LdS vS173 ((⟨w.heap.size, 0, none⟩ : Addr).add 4) (Value.int .i64) fun (x178 : Int) =>
    LdS vS173 ((⟨w.heap.size, 0, none⟩ : Addr).add 5) (Value.int .i64) fun (x179 : Int) =>
    0 ≤ s62 ∧ s62 < (r58.len : Nat) ∧ Nn r58.p fun a180 =>
    LdS vS173 ((a180.add ((s62).toNat * 7)).add 5) (Value.int .i64) fun (x181 : Int) =>
    LdS vS173 (((a180.add ((s62).toNat * 7)).add 5).add 1) (Value.int .i64) fun (x182 : Int) =>
    (C45 (x174, x175, x176, x177, x178, x179) (x181, x182) vw112.drew fun r183 r184 vw185 =>
        Nw vw185 (.cells #[.int .i64 0, .int .i64 0] 43) fun vw186 =>
        St vw186 (⟨vw185.heap.size, 0, none⟩ : Addr) (.int .i64 (r183.1)) fun vw187 =>
        St vw187 ((⟨vw185.heap.size, 0, none⟩ : Addr).add 1) (.int .i64 (r183.2)) fun vw188 =>
        vJ172 ((⟨vw185.heap.size, 0, none⟩ : Addr), r184) vw188) ∧
    (Nw vw112.drew (.cells #[.int .i64 0, .int .i64 0] 43) fun vw189 =>
      vS173 vw189 ∧ C45 (x174, x175, x176, x177, x178, x179) (x181, x182) vw189 fun r190 r191 vw192 =>
        St vw192 (⟨vw112.drew.heap.size, 0, none⟩ : Addr) (.int .i64 (r190.1)) fun vw193 =>
        St vw193 ((⟨vw112.drew.heap.size, 0, none⟩ : Addr).add 1) (.int .i64 (r190.2)) fun vw194 =>
        vJ172 ((⟨vw112.drew.heap.size, 0, none⟩ : Addr), r191) vw194)
def S8J3 (w : World) (r58 : Slc) (r60 : Slc) (s62 : Int) (I64 : Int → World → Prop) (R : Bool → World → Prop) (s87 : Addr × Int) (vw88 : World) : Prop :=
  Join (S8J2 w r58 r60 s62 I64 s87 R) fun (vJ195 : (Addr × Int) → World → Prop) =>
    ∃ vS196 : World → Prop, vS196 vw88.drew ∧ LdS vS196 (⟨w.heap.size, 0, none⟩ : Addr) (Value.int .i64) fun (x197 : Int) =>
    LdS vS196 ((⟨w.heap.size, 0, none⟩ : Addr).add 1) (Value.int .i64) fun (x198 : Int) =>
    LdS vS196 ((⟨w.heap.size, 0, none⟩ : Addr).add 2) (Value.int .i64) fun (x199 : Int) =>
    LdS vS196 ((⟨w.heap.size, 0, none⟩ : Addr).add 3) (Value.int .i64) fun (x200 : Int) =>
    LdS vS196 ((⟨w.heap.size, 0, none⟩ : Addr).add 4) (Value.int .i64) fun (x201 : Int) =>
    LdS vS196 ((⟨w.heap.size, 0, none⟩ : Addr).add 5) (Value.int .i64) fun (x202 : Int) =>
    0 ≤ s62 ∧ s62 < (r58.len : Nat) ∧ Nn r58.p fun a203 =>
    LdS vS196 ((a203.add ((s62).toNat * 7)).add 3) (Value.int .i64) fun (x204 : Int) =>
    LdS vS196 (((a203.add ((s62).toNat * 7)).add 3).add 1) (Value.int .i64) fun (x205 : Int) =>
    (C45 (x197, x198, x199, x200, x201, x202) (x204, x205) vw88.drew fun r206 r207 vw208 =>
        Nw vw208 (.cells #[.int .i64 0, .int .i64 0] 43) fun vw209 =>
        St vw209 (⟨vw208.heap.size, 0, none⟩ : Addr) (.int .i64 (r206.1)) fun vw210 =>
        St vw210 ((⟨vw208.heap.size, 0, none⟩ : Addr).add 1) (.int .i64 (r206.2)) fun vw211 =>
        vJ195 ((⟨vw208.heap.size, 0, none⟩ : Addr), r207) vw211) ∧
    (Nw vw88.drew (.cells #[.int .i64 0, .int .i64 0] 43) fun vw212 =>
      vS196 vw212 ∧ C45 (x197, x198, x199, x200, x201, x202) (x204, x205) vw212 fun r213 r214 vw215 =>
        St vw215 (⟨vw88.drew.heap.size, 0, none⟩ : Addr) (.int .i64 (r213.1)) fun vw216 =>
        St vw216 ((⟨vw88.drew.heap.size, 0, none⟩ : Addr).add 1) (.int .i64 (r213.2)) fun vw217 =>
        vJ195 ((⟨vw88.drew.heap.size, 0, none⟩ : Addr), r214) vw217)
def S8L1 (w : World) (r58 : Slc) (r60 : Slc) (R : Bool → World → Prop) (I64 : Int → World → Prop) (s62 : Int) (vw63 : World) : Prop :=
  Br (decide (s62 < ((r58.len : Nat) : Int))) (Join (S8J3 w r58 r60 s62 I64 R) fun (vJ218 : (Addr × Int) → World → Prop) =>
      ∃ vS219 : World → Prop, vS219 vw63.drew ∧ LdS vS219 (⟨w.heap.size, 0, none⟩ : Addr) (Value.int .i64) fun (x220 : Int) =>
      LdS vS219 ((⟨w.heap.size, 0, none⟩ : Addr).add 1) (Value.int .i64) fun (x221 : Int) =>
      LdS vS219 ((⟨w.heap.size, 0, none⟩ : Addr).add 2) (Value.int .i64) fun (x222 : Int) =>
      LdS vS219 ((⟨w.heap.size, 0, none⟩ : Addr).add 3) (Value.int .i64) fun (x223 : Int) =>
      LdS vS219 ((⟨w.heap.size, 0, none⟩ : Addr).add 4) (Value.int .i64) fun (x224 : Int) =>
      LdS vS219 ((⟨w.heap.size, 0, none⟩ : Addr).add 5) (Value.int .i64) fun (x225 : Int) =>
      0 ≤ s62 ∧ s62 < (r58.len : Nat) ∧ Nn r58.p fun a226 =>
      LdS vS219 ((a226.add ((s62).toNat * 7)).add 1) (Value.int .i64) fun (x227 : Int) =>
      LdS vS219 (((a226.add ((s62).toNat * 7)).add 1).add 1) (Value.int .i64) fun (x228 : Int) =>
      (C45 (x220, x221, x222, x223, x224, x225) (x227, x228) vw63.drew fun r229 r230 vw231 =>
          Nw vw231 (.cells #[.int .i64 0, .int .i64 0] 43) fun vw232 =>
          St vw232 (⟨vw231.heap.size, 0, none⟩ : Addr) (.int .i64 (r229.1)) fun vw233 =>
          St vw233 ((⟨vw231.heap.size, 0, none⟩ : Addr).add 1) (.int .i64 (r229.2)) fun vw234 =>
          vJ218 ((⟨vw231.heap.size, 0, none⟩ : Addr), r230) vw234) ∧
      (Nw vw63.drew (.cells #[.int .i64 0, .int .i64 0] 43) fun vw235 =>
        vS219 vw235 ∧ C45 (x220, x221, x222, x223, x224, x225) (x227, x228) vw235 fun r236 r237 vw238 =>
          St vw238 (⟨vw63.drew.heap.size, 0, none⟩ : Addr) (.int .i64 (r236.1)) fun vw239 =>
          St vw239 ((⟨vw63.drew.heap.size, 0, none⟩ : Addr).add 1) (.int .i64 (r236.2)) fun vw240 =>
          vJ218 ((⟨vw63.drew.heap.size, 0, none⟩ : Addr), r237) vw240)) (R true vw63)
def S8L2 (w : World) (l1 : Slc) (R : Bool → World → Prop) (I30 : Int → World → Prop) (s28 : Int) (vw29 : World) : Prop :=
  Br (decide (s28 < ((l1.len : Nat) : Int))) (0 ≤ s28 ∧ s28 < (l1.len : Nat) ∧ Nn l1.p fun a31 =>
    Ld vw29 (a31.add ((s28).toNat * 3)) Value.string fun (x32 : ByteArray) =>
    Ld vw29 ((a31.add ((s28).toNat * 3)).add 1) Slc.v fun (x33 : Slc) =>
    Ld vw29 ((a31.add ((s28).toNat * 3)).add 2) Value.string fun (x34 : ByteArray) =>
    Nw vw29 (.cells #[.string ((⟨#[]⟩ : ByteArray)), Slc.v ((⟨none, 0, 0⟩ : Slc)), .string ((⟨#[]⟩ : ByteArray))] 63) fun vw35 =>
    St vw35 (⟨vw29.heap.size, 0, none⟩ : Addr) (.string x32) fun vw36 =>
    St vw36 ((⟨vw29.heap.size, 0, none⟩ : Addr).add 1) (Slc.v x33) fun vw37 =>
    St vw37 ((⟨vw29.heap.size, 0, none⟩ : Addr).add 2) (.string x34) fun vw38 =>
    Ld vw38 (⟨vw29.heap.size, 0, none⟩ : Addr) Value.string fun (x39 : ByteArray) =>
    Ld vw38 ((⟨vw29.heap.size, 0, none⟩ : Addr).add 1) Slc.v fun (x40 : Slc) =>
    Ld vw38 ((⟨vw29.heap.size, 0, none⟩ : Addr).add 2) Value.string fun (x41 : ByteArray) =>
    C43 (x39, x40, x41) vw38 fun r42 vw43 =>
      Br (r42 != 0) (R true vw43) (I30 (IntKind.i64.wrap (s28 + 1)) vw43)) (C44 vw29 fun r44 vw45 =>
      C41 l1 (r44.1, r44.2.1, r44.2.2.1, r44.2.2.2.1, r44.2.2.2.2.1, r44.2.2.2.2.2) vw45 fun r46 r47 vw48 =>
        Ld vw48 (⟨w.heap.size, 0, none⟩ : Addr) (Value.int .i64) fun (x49 : Int) =>
        Ld vw48 ((⟨w.heap.size, 0, none⟩ : Addr).add 1) (Value.int .i64) fun (x50 : Int) =>
        Ld vw48 ((⟨w.heap.size, 0, none⟩ : Addr).add 2) (Value.int .i64) fun (x51 : Int) =>
        Ld vw48 ((⟨w.heap.size, 0, none⟩ : Addr).add 3) (Value.int .i64) fun (x52 : Int) =>
        Ld vw48 ((⟨w.heap.size, 0, none⟩ : Addr).add 4) (Value.int .i64) fun (x53 : Int) =>
        Ld vw48 ((⟨w.heap.size, 0, none⟩ : Addr).add 5) (Value.int .i64) fun (x54 : Int) =>
        C41 l1 (x49, x50, x51, x52, x53, x54) vw48 fun r55 r56 vw57 =>
          Br (!r47) (R true vw57) (Br (!r56) (R true vw57) (C25 r46 vw57 fun r58 vw59 =>
                C25 r55 vw59 fun r60 vw61 =>
                  Br (((r58.len : Nat) : Int) != ((r60.len : Nat) : Int)) (R false vw61) (Lp (σ := Int) (S8L1 w r58 r60 R) 0 vw61))))
/-- foliant/foliantlaw45.PathLed -/
def S8 (l1 : Slc) (m2 : Int × Int × Int × Int × Int × Int) (w : World) (R : Bool → World → Prop) : Prop :=
  Nw w (.cells #[.int .i64 (m2.1), .int .i64 (m2.2.1), .int .i64 (m2.2.2.1), .int .i64 (m2.2.2.2.1), .int .i64 (m2.2.2.2.2.1), .int .i64 (m2.2.2.2.2.2)] 23) fun vw3 =>
  C34 vw3 fun r6 vw7 =>
    Br (!r6) (R false vw7) (C33 l1 vw7 fun r10 vw11 =>
        Br (!r10) (R true vw11) (Lp (σ := Int) (S8L2 w l1 R) 0 vw11))
def pl8 : Plan := (.seq (.reg .seq) (.seq (.seq (.reg .seq) (.cond (.seq (.reg .seq) .leaf) .leaf)) (.seq (.seq (.reg .seq) (.cond (.seq (.reg .seq) .leaf) .leaf)) (.seq (.seq (.reg .seq) (.block (.loop [(27, (.one (.int .i64)))] [0, 3, 25, 26] (.seq (.reg .seq) (.seq (.cond .leaf .leaf) (.seq (.block (.seq (.reg .seq) (.seq (.reg .seq) (.cond (.seq (.reg .seq) .leaf) .leaf)))) (.reg .seq))))))) (.seq (.reg .seq) (.seq (.reg .seq) (.seq (.seq (.reg .seq) (.cond (.seq (.reg .seq) .leaf) .leaf)) (.seq (.reg .seq) (.seq (.seq (.reg .seq) (.cond (.seq (.reg .seq) .leaf) .leaf)) (.seq (.seq (.reg .seq) (.block (.loop [(64, (.one (.int .i64)))] [3, 11, 12, 63] (.seq (.reg .seq) (.seq (.cond .leaf .leaf) (.seq (.block (.seq (.reg .seq) (.join [(14, (.one .addr)), (15, (.one (.int .i64)))] [3, 11, 12, 13, 63, 64] (.reg (.held [6] (.take 0 (.take 1 (.take 2 (.take 3 (.take 4 (.take 5 (.effs 6 (some [10]) (.take 7 (.take 8 (.take 9 (.eff 10 (some [11]) (.eff 11 (some []) (.take 12 .done)))))) (.eff 10 none (.eff 6 (some [11]) (.take 7 (.take 8 (.take 9 (.eff 11 (some []) (.take 12 .done)))))))))))))))) (.join [(16, (.one .addr)), (17, (.one (.int .i64)))] [3, 11, 12, 13, 14, 15, 63, 64] (.reg (.held [6] (.take 0 (.take 1 (.take 2 (.take 3 (.take 4 (.take 5 (.effs 6 (some [10]) (.take 7 (.take 8 (.take 9 (.eff 10 (some [11]) (.eff 11 (some []) (.take 12 .done)))))) (.eff 10 none (.eff 6 (some [11]) (.take 7 (.take 8 (.take 9 (.eff 11 (some []) (.take 12 .done)))))))))))))))) (.join [(18, (.one .addr)), (19, (.one (.int .i64)))] [3, 11, 12, 13, 14, 15, 16, 17, 63, 64] (.reg (.held [6] (.take 0 (.take 1 (.take 2 (.take 3 (.take 4 (.take 5 (.effs 6 (some [10]) (.take 7 (.take 8 (.take 9 (.eff 10 (some [11]) (.eff 11 (some []) (.take 12 .done)))))) (.eff 10 none (.eff 6 (some [11]) (.take 7 (.take 8 (.take 9 (.eff 11 (some []) (.take 12 .done)))))))))))))))) (.seq (.reg .still) (.cond (.seq (.reg .seq) .leaf) .leaf))))))) (.reg .seq))))))) (.seq (.reg .seq) .leaf)))))))))))
set_option maxRecDepth 100000 in
theorem T8 (l1 : Slc) (m2 : Int × Int × Int × Int × Int × Int) (w : World) (R : Bool → World → Prop) (h : S8 l1 m2 w R) : C8 l1 (m2.1, m2.2.1, m2.2.2.1, m2.2.2.2.1, m2.2.2.2.2.1, m2.2.2.2.2.2) w R := by
  have e : fnT Tryd.prog ⟨FF, MAY, (fun _ _ => False)⟩ pl8 Tryd.f8 [Slc.v l1, .agg #[.int .i64 (m2.1), .int .i64 (m2.2.1), .int .i64 (m2.2.2.1), .int .i64 (m2.2.2.2.1), .int .i64 (m2.2.2.2.2.1), .int .i64 (m2.2.2.2.2.2)]] w [(.one .bool)] (fun s w => R s w) = S8 l1 m2 w R := by kernel_rfl
  exact (fn_calls okF okM Tryd.func8 (by kernel_rfl) (by kernel_rfl) (e.mpr h)).mono fun _ _ ⟨s, he, hR⟩ => ⟨s, he, hR⟩

end Go.Proofs.YtjbeembbnkmpeaaDoor

/- Paths: lists of operators played; PathLed. Conditions: the tables are laid; Box. -/
namespace Go.Proofs.YtjbeembbnkmpeaaDoor
namespace Pat
open Sh Mat Fix Opr
set_option linter.unusedVariables false
set_option linter.unusedSimpArgs false
set_option maxRecDepth 8000
set_option maxHeartbeats 8000000
/-- Operators of a slice that can be read. -/
structure OpsR (w : World) (s : Slc) (Q : List OpA) : Prop where
  len : s.len = Q.length
  at' : ∀ (i : Nat) (q : OpA), Q[i]? = some q → ∃ a, s.p = some a ∧ w.cell? (a.add (i * 3)) = some (.string q.1.1) ∧ w.cell? ((a.add (i * 3)).add 1) = some (Slc.v q.1.2.1) ∧ w.cell? ((a.add (i * 3)).add 2) = some (.string q.1.2.2)
  ok : ∀ q ∈ Q, OV w q.1.2.1 q.2 ∧ q.2.length ≤ 9223372036854775807
theorem OpsR.keep {w w' : World} {s : Slc} {Q : List OpA} (h : OpsR w s Q) (he : Ext (fun _ => False) w w') : OpsR w' s Q :=
  ⟨h.len, fun i q hi => by
    obtain ⟨a, h0, h1, h2, h3⟩ := h.at' i q hi
    exact ⟨a, h0, he.cell_same h1, he.cell_same h2, he.cell_same h3⟩, fun q hq => ⟨(h.ok q hq).1.keep he, (h.ok q hq).2⟩⟩
theorem OpsV.r {w : World} {s : Slc} {Q : List OpA} (h : OpsV w s Q) : OpsR w s Q :=
  ⟨h.len, h.at', fun q hq => by
    obtain ⟨_, n, h1, h2, _⟩ := h.ok q hq
    have := maxLen_le
    exact ⟨h2, by omega⟩⟩
section
variable {w0 w w' w1 : World} {s sg : Slc} {Q : List OpA} {b : Nat} {p : Pa} {m : Mx}
attribute [local irreducible] Ld Sh.St Nw Nn LdS LdT LdST StT
/-- What played gives. -/
def PlR (w w1 : World) (o : Option Pa) (r : Option Addr) (ok : Bool) : Prop := match o with
  | none => ok = false
  | some p => ok = true ∧ ∃ b sg, r = some ⟨b, 0, none⟩ ∧ w.heap.size ≤ b ∧ PV w1 b p sg ∧ ∀ j, sg.own j → w.heap.size ≤ j
theorem c_played (hs : AS w) (h : OpsR w s Q) (hmost : Q.length ≤ 1000000000) : C41 s m w fun r ok w1 => Ext (fun _ => False) w w1 ∧ PlR w w1 (playP m (Q.map poOf) pa0) r ok := by
  refine T41 _ m _ _ ?_
  unfold S41
  refine (Hn.start w).nw fun w2 K => ?_
  simp only [List.nil_append, add_lit, Nat.zero_add] at K ⊢
  have s2 : w.heap.size < w2.heap.size := K.lt 0 rfl
  refine (c_new w2).mono ?_
  rintro r w4 ⟨b, rfl, hb, hpv, e4⟩
  have K := K.keep e4
  have H : LS w w4 b pa0 nilS [(w.heap.size, mrow m, 23)] [] := ⟨K.ext, hpv, fun j hj => (by obtain ⟨a', ha, _⟩ := hj; cases ha), by omega, fun q hq => by
    rw [List.mem_singleton.1 hq]
    exact ⟨K.get 0 rfl, fun hj => (by obtain ⟨a', ha, _⟩ := hj; cases ha), by show w.heap.size ≠ b; omega⟩, fun q hq => (List.not_mem_nil hq).elim⟩
  refine ⟨fun n st v => ∃ (i : Nat) (p : Pa) (sg : Slc), st = (i : Int) ∧ i ≤ Q.length ∧ n = Q.length - i ∧ playP m ((Q.map poOf).take i) pa0 = some p ∧ LS w v b p sg [(w.heap.size, mrow m, 23)] [], Q.length, ⟨0, pa0, nilS, rfl, by omega, rfl, rfl, H⟩, ?_⟩
  clear H K e4 hpv hb
  rintro n st v ⟨i, p, sg, rfl, hi, rfl, hpl, H⟩
  unfold S41L1
  rw [h.len]
  refine Br.dec (fun q => ⟨by omega, by omega, ?_⟩) fun q => ?_
  · have hlt : i < Q.length := by omega
    have ho : Q[i]? = some Q[i] := List.getElem?_eq_getElem hlt
    have hstep := play_take m (Q.map poOf) i (by rw [List.length_map]; exact hlt) pa0
    rw [List.getElem_map, hpl, Option.bind_some] at hstep
    obtain ⟨hov, hql⟩ := (h.keep H.ext).ok Q[i] (List.getElem_mem hlt)
    generalize Q[i] = o at ho hstep hov hql
    obtain ⟨a, ha, c0, c1, c2⟩ := (h.keep H.ext).at' i o ho
    rw [ha, Int.toNat_natCast]
    refine Nn.of (Ld.mk c0 (Ld.mk c1 (Ld.mk c2 ?_)))
    have P0 := H.pv
    refine (Hn.start v).nw fun w6 K => ?_
    simp only [List.nil_append, add_lit, Nat.zero_add] at K ⊢
    iterate 3 (refine K.st 0 rfl (by simp) fun _ K => ?_; simp only [List.set_cons_zero, List.set_cons_succ] at K)
    have H := (H.keep K.ext).push (K.get 0 rfl) P0 (Nat.le_refl _)
    have hov := hov.keep K.ext
    simp only [List.cons_append, List.nil_append] at H
    have opb := H.get 1 rfl
    have mb := H.get 0 rfl
    refine Br.f rfl ?_
    iterate 3 refine Ld.of opb rfl ?_
    iterate 6 refine Ld.of mb rfl ?_
    refine (LS.do_ hs H hov hql rfl).mono ?_
    rintro r124 w9 ⟨rfl, sg', H⟩
    have hi1 : IntKind.i64.wrap ((i : Int) + 1) = ((i + 1 : Nat) : Int) := by rw [i64_id (by omega)]; rfl
    refine Br.ne (fun hne => ⟨H.ext, ?_⟩) fun he => ?_
    · rw [if_neg (show ¬ (doP p (poOf o).1 (poOf o).2.1 (poOf o).2.2 m).1 = 0 from hne)] at hstep
      rw [play_none hstep]
      rfl
    · rw [if_pos (show (doP p (poOf o).1 (poOf o).2.1 (poOf o).2.2 m).1 = 0 from he)] at hstep
      exact ⟨Q.length - (i + 1), by omega, i + 1, _, sg', hi1, by omega, rfl, hstep, H.ext, H.pv, H.own, H.ge, fun q hq => H.pin q (by rw [List.mem_singleton.1 hq]; exact List.mem_cons_self ..), fun q hq => (List.not_mem_nil hq).elim⟩
  · have hiq : i = Q.length := by omega
    refine ⟨H.ext, ?_⟩
    rw [show (Q.map poOf).take i = Q.map poOf by rw [hiq]; exact List.take_of_length_le (by rw [List.length_map]; exact Nat.le_refl _)] at hpl
    rw [hpl]
    exact ⟨rfl, b, sg, rfl, H.ge, H.pv, H.own⟩
theorem c_small2 (h : OpsV w0 s Q) (E : Ext (fun _ => False) w0 w) : C33 s w fun r w1 => (r = true → Q.length ≤ 60) ∧ Ext (fun _ => False) w w1 := by
  refine T33 _ _ _ ?_
  unfold S33
  have hm := maxLen_le
  have hmost := h.most
  rw [h.len]
  refine Br.dec (fun _ => ⟨by simp, Ext.refl _ _⟩) fun h60 => ?_
  have h60 : Q.length ≤ 60 := by omega
  refine ⟨fun n st w3 => ∃ i : Nat, st = (i : Int) ∧ i ≤ Q.length ∧ n = Q.length - i ∧ Ext (fun _ => False) w w3, Q.length, ⟨0, rfl, by omega, rfl, Ext.refl _ _⟩, ?_⟩
  rintro n st w3 ⟨i, rfl, hi, rfl, e3⟩
  unfold S33L2
  rw [h.len]
  refine Br.dec (fun e => ⟨by omega, by omega, ?_⟩) fun e => ⟨fun _ => h60, e3⟩
  obtain ⟨a, q, ha, ⟨hnl, d, hql, hov, hot⟩, hq, c⟩ := h.get' (i := i) (by omega)
  obtain ⟨c0, c1, c2⟩ := c w3 (E.tr e3)
  rw [ha, Int.toNat_natCast]
  refine Nn.of (Ld.mk c0 (Ld.mk c1 (Ld.mk c2 ?_)))
  refine (Hn.start w3).nw fun w4 K => ?_
  simp only [List.nil_append, add_lit, Nat.zero_add] at K ⊢
  iterate 3 (refine K.st 0 rfl (by simp) fun _ K => ?_; simp only [List.set_cons_zero, List.set_cons_succ] at K)
  refine K.ld 0 rfl rfl ?_
  have e4 := e3.tr K.ext
  refine ⟨fun n st w5 => ∃ k : Nat, st = (k : Int) ∧ k ≤ q.2.length ∧ n = q.2.length - k ∧ Ext (fun _ => False) w w5, q.2.length, ⟨0, rfl, by omega, rfl, e4⟩, ?_⟩
  rintro n st w5 ⟨k, rfl, hk, rfl, e5⟩
  unfold S33L1
  rw [hov.1]
  refine Br.dec (fun e => ⟨by omega, by omega, ?_⟩) fun e => ?_
  · have hk : q.2[k]? = some q.2[k] := List.getElem?_eq_getElem (by omega)
    obtain ⟨p, hp, k0, k1, k2, k3, k4, k5⟩ := (hov.keep (E.tr e5)).get hk
    rw [hp, Int.toNat_natCast]
    refine Nn.of (Ld.mk k0 (Ld.mk k1 (Ld.mk k2 (Ld.mk k3 (Ld.mk k4 (Ld.mk k5 ?_))))))
    refine (Hn.start w5).nw fun w6 K2 => ?_
    simp only [List.nil_append, add_lit, Nat.zero_add] at K2 ⊢
    iterate 6 (refine K2.st 0 rfl (by simp) fun _ K2 => ?_; simp only [List.set_cons_zero, List.set_cons_succ] at K2)
    iterate 6 refine K2.ld 0 rfl rfl ?_
    refine (c_size d q.2[k] _ (hot _ (List.getElem_mem (by omega))) (E.tr (e5.tr K2.ext))).mono ?_
    intro r w7 e7
    have e7 := (e5.tr K2.ext).tr e7
    refine Br.dec (fun _ => ⟨by simp, e7⟩) fun _ => ?_
    exact ⟨q.2.length - (k + 1), by omega, k + 1, by rw [i64_id (by omega)]; rfl, by omega, rfl, e7⟩
  · exact ⟨Q.length - (i + 1), by omega, i + 1, by rw [i64_id (by omega)]; rfl, by omega, rfl, e5⟩
/-- The image of a point, in its block. -/
def PB (v : World) (m : Mx) (s : Addr × Int) (p : Int × Int) : Prop := ∃ g q, s.1 = ⟨g, 0, none⟩ ∧ (q, s.2) = resP (applyP m p) ∧ Blk v g ([.int .i64 q.1, .int .i64 q.2] : List Value).toArray 43
theorem PB.keep {v v' : World} {s : Addr × Int} {p : Int × Int} (h : PB v m s p) (he : Ext (fun _ => False) v v') : PB v' m s p := by
  obtain ⟨g, q, h1, h2, h3⟩ := h
  exact ⟨g, q, h1, h2, he.blk h3 id⟩
theorem PB.yes {v : World} {s : Addr × Int} {p q : Int × Int} (h : PB v m s p) (hq : applyP m p = some q) : s.2 = 0 ∧ v.cell? s.1 = some (.int .i64 q.1) ∧ v.cell? (s.1.add 1) = some (.int .i64 q.2) := by
  obtain ⟨g, q', h1, h2, h3⟩ := h
  rw [hq] at h2
  have h2' : q' = q ∧ s.2 = 0 := Prod.mk.inj h2
  obtain ⟨rfl, h2'⟩ := h2'
  rw [h1, add_lit, h3.cell, h3.cell]
  exact ⟨h2', rfl, rfl⟩
theorem led_law {W : World} (hbox : BoxOk) (hs : AS W) (hpm : PM W) (m : Mx) (hQ : OpsV W s Q) : C8 s m W fun r w1 => r = true ∧ Ext (fun _ => False) W w1 := by
  have hmx := maxLen_le
  have hmost := hQ.most
  refine T8 _ m _ _ ?_
  unfold S8
  refine (Hn.start W).nw fun w2 K => ?_
  simp only [List.nil_append, add_lit, Nat.zero_add] at K ⊢
  refine (c_lives hbox (hs.keep K.ext) (hpm.keep K.ext)).mono ?_
  rintro r w3 ⟨rfl, e3⟩
  have K := K.keep e3
  refine Br.f rfl ?_
  refine (c_small2 hQ K.ext).mono ?_
  rintro r w5 ⟨h60, e5⟩
  have K := K.keep e5
  cases r with
  | false => exact Br.t rfl ⟨by trivial, K.ext⟩
  | true =>
  have h60 := h60 rfl
  refine Br.f rfl ?_
  refine ⟨fun n st v => ∃ i : Nat, st = (i : Int) ∧ i ≤ Q.length ∧ n = Q.length - i ∧ Hn W v [(W.heap.size, mrow m, 23)], Q.length, ⟨0, rfl, by omega, rfl, K⟩, ?_⟩
  clear K e3 e5
  rintro n st v ⟨i, rfl, hi, rfl, K⟩
  unfold S8L2
  rw [hQ.len]
  refine Br.dec (fun q => ⟨by omega, by omega, ?_⟩) fun _ => ?_
  · have ho : Q[i]? = some Q[i] := List.getElem?_eq_getElem (by omega)
    obtain ⟨hov, hql⟩ := (hQ.r.keep K.ext).ok Q[i] (List.getElem_mem (by omega))
    generalize Q[i] = o at ho hov hql
    obtain ⟨a, ha, c0, c1, c2⟩ := (hQ.r.keep K.ext).at' i o ho
    rw [ha, Int.toNat_natCast]
    refine Nn.of (Ld.mk c0 (Ld.mk c1 (Ld.mk c2 ?_)))
    refine (Hn.start v).nw fun w6 L => ?_
    simp only [List.nil_append, add_lit, Nat.zero_add] at L ⊢
    iterate 3 (refine L.st 0 rfl (by simp) fun _ L => ?_; simp only [List.set_cons_zero, List.set_cons_succ] at L)
    iterate 3 refine L.ld 0 rfl rfl ?_
    refine (r_check (hov.keep L.ext) hql).mono ?_
    rintro r w7 ⟨rfl, e7⟩
    have K := (K.keep L.ext).keep e7
    exact Br.ne (fun _ => ⟨by trivial, K.ext⟩) fun _ => ⟨Q.length - (i + 1), by omega, i + 1, by rw [i64_id (by omega)]; rfl, by omega, rfl, K⟩
  refine (r_one v).mono ?_
  rintro r w6 ⟨rfl, e6⟩
  have K := K.keep e6
  refine (c_played (m := one) (hs.keep K.ext) (hQ.r.keep K.ext) (by omega)).mono ?_
  rintro r46 ok1 w7 ⟨e7, h7⟩
  have K := K.keep e7
  iterate 6 refine K.ld 0 rfl rfl ?_
  refine (c_played (m := m) (hs.keep K.ext) (hQ.r.keep K.ext) (by omega)).mono ?_
  rintro r55 ok2 w8 ⟨e8, h8⟩
  have K := K.keep e8
  cases d1 : playP one (Q.map poOf) pa0 with
  | none =>
    rw [d1] at h7
    obtain rfl : ok1 = false := h7
    exact Br.t rfl ⟨by trivial, K.ext⟩
  | some p1 =>
  rw [d1] at h7
  obtain ⟨rfl, b1, sg1, rfl, _, v1, _⟩ := h7
  refine Br.f rfl ?_
  cases d2 : playP m (Q.map poOf) pa0 with
  | none =>
    rw [d2] at h8
    obtain rfl : ok2 = false := h8
    exact Br.t rfl ⟨by trivial, K.ext⟩
  | some p2 =>
  rw [d2] at h8
  obtain ⟨rfl, b2, sg2, rfl, _, v2, _⟩ := h8
  refine Br.f rfl ?_
  have hled : LedL m p1.L p2.L := (led_play (Q.map poOf) (p := pa0) (q := pa0) ⟨.nil, fun h => absurd rfl h⟩ d1 d2).1
  have hf1 := v1.few
  refine (c_segs (v1.keep e8)).mono ?_
  rintro r58 w9 ⟨h58, e9⟩
  have K := K.keep e9
  refine (c_segs (v2.keep e9)).mono ?_
  rintro r60 w10 ⟨h60', e10⟩
  have K := K.keep e10
  have u1 := (h58.sv).keep e10
  have u2 := h60'.sv
  have hlen := hled.len
  rw [u1.1, u2.1, hlen]
  refine Br.ne (fun h => absurd rfl h) fun _ => ?_
  refine ⟨fun n st v => ∃ i : Nat, st = (i : Int) ∧ i ≤ p1.L.length ∧ n = p1.L.length - i ∧ Ext (fun _ => False) w10 v, p1.L.length, ⟨0, rfl, by omega, rfl, Ext.refl _ _⟩, ?_⟩
  rintro n st v ⟨i, rfl, hi, rfl, ev⟩
  unfold S8L1
  rw [u1.1]
  refine Br.dec (fun q => ?_) fun _ => ⟨by trivial, K.ext.tr ev⟩
  have ho : p1.L[i]? = some p1.L[i] := List.getElem?_eq_getElem (by omega)
  have ht : p2.L[i]? = some p2.L[i] := List.getElem?_eq_getElem (by omega)
  generalize p1.L[i] = o at ho
  generalize p2.L[i] = t at ht
  obtain ⟨k1, k2, k3⟩ := hled.get i o t ho ht
  have hi1 : IntKind.i64.wrap ((i : Int) + 1) = ((i + 1 : Nat) : Int) := by rw [i64_id (by omega)]; rfl
  obtain ⟨a1, ha1, _⟩ := u1.get ho
  obtain ⟨a2, ha2, _⟩ := u2.get ht
  have g1 : ∀ {v' : World}, Ext (fun _ => False) w10 v' → ∀ (j : Nat) (x : Value), (sgrow o)[j]? = some x → v'.cell? ((a1.add (i * 7)).add j) = some x := fun e j x hx => by
    obtain ⟨a', ha', hc⟩ := (u1.keep e).get ho
    rw [ha1] at ha'
    cases ha'
    exact hc j x hx
  have g2 : ∀ {v' : World}, Ext (fun _ => False) w10 v' → ∀ (j : Nat) (x : Value), (sgrow t)[j]? = some x → v'.cell? ((a2.add (i * 7)).add j) = some x := fun e j x hx => by
    obtain ⟨a', ha', hc⟩ := (u2.keep e).get ht
    rw [ha2] at ha'
    cases ha'
    exact hc j x hx
  have g10 : ∀ {v' : World}, Ext (fun _ => False) w10 v' → v'.cell? (a1.add (i * 7)) = some (.int .i64 o.1) := fun e => by
    have := g1 e 0 _ rfl
    rwa [add_add', Nat.add_zero] at this
  have g20 : ∀ {v' : World}, Ext (fun _ => False) w10 v' → v'.cell? (a2.add (i * 7)) = some (.int .i64 t.1) := fun e => by
    have := g2 e 0 _ rfl
    rwa [add_add', Nat.add_zero] at this
  have nxt : ∀ {v' : World}, Ext (fun _ => False) w10 v' → ∃ n', n' < p1.L.length - i ∧ ∃ k : Nat, IntKind.i64.wrap ((i : Int) + 1) = (k : Int) ∧ k ≤ p1.L.length ∧ n' = p1.L.length - k ∧ Ext (fun _ => False) w10 v' := fun e =>
    ⟨p1.L.length - (i + 1), by omega, i + 1, hi1, by omega, rfl, e⟩
  have same2 : ∀ {x y z u : Int} {A B : Prop}, x = z → y = u → B → Br (!((x == z) && ((y == u) && true))) A B := fun h1 h2 k => by
    subst h1 h2
    exact Br.f (by simp) k
  have bi : 0 ≤ (i : Int) ∧ (i : Int) < ((p1.L.length : Nat) : Int) := ⟨by omega, by omega⟩
  have bi2 : 0 ≤ (i : Int) ∧ (i : Int) < ((p2.L.length : Nat) : Int) := ⟨by omega, by omega⟩
  have aa : ∀ (a : Addr) (x y z : Nat), ((a.add x).add y).add z = (a.add x).add (y + z) := fun a x y z => add_add' _ _ _
  have j1 : ∀ (s1 s2 s3 : Addr × Int) (v' : World), Ext (fun _ => False) w10 v' → PB v' m s1 (Sg.P o) → PB v' m s2 (Sg.Q o) → PB v' m s3 (Sg.R o) → S8J1 r58 r60 (i : Int) (fun s w => ∃ n', n' < p1.L.length - i ∧ ∃ k : Nat, s = (k : Int) ∧ k ≤ p1.L.length ∧ n' = p1.L.length - k ∧ Ext (fun _ => False) w10 w) s1 s2 (fun r w1 => r = true ∧ Ext (fun _ => False) W w1) s3 v' := by
    intro s1 s2 s3 v' e b1 b2 b3
    unfold S8J1
    have e := e.drew
    have b1 := b1.keep (Ext.refl _ v').drew
    have b2 := b2.keep (Ext.refl _ v').drew
    have b3 := b3.keep (Ext.refl _ v').drew
    generalize v'.drew = u at e b1 b2 b3 ⊢
    rw [ha1, ha2, Int.toNat_natCast, u1.1, u2.1]
    refine ⟨bi.1, bi.2, Nn.of (Ld.mk (g10 e) ⟨bi2.1, bi2.2, Nn.of (Ld.mk (g20 e) (Br.ne (fun h => absurd k1 h) fun _ => ⟨bi.1, bi.2, Nn.of (Ld.mk (g10 e) ?_)⟩))⟩)⟩
    have tail : 0 ≤ (i : Int) ∧ (i : Int) < ((p1.L.length : Nat) : Int) ∧ Nn (some a1) fun a148 => Ld u (a148.add (i * 7)) (Value.int .i64) fun (x149 : Int) =>
          Br (x149 == 3) (Br (s1.2 != 0) (false = true ∧ Ext (fun _ => False) W u) (Br (s2.2 != 0) (false = true ∧ Ext (fun _ => False) W u) (Ld u s1.1 (Value.int .i64) fun (x150 : Int) =>
                Ld u (s1.1.add 1) (Value.int .i64) fun (x151 : Int) =>
                0 ≤ (i : Int) ∧ (i : Int) < ((p2.L.length : Nat) : Int) ∧ Nn (some a2) fun a152 =>
                Ld u ((a152.add (i * 7)).add 1) (Value.int .i64) fun (x153 : Int) =>
                Ld u (((a152.add (i * 7)).add 1).add 1) (Value.int .i64) fun (x154 : Int) =>
                Br (!((x150 == x153) && ((x151 == x154) && true))) (false = true ∧ Ext (fun _ => False) W u) (Ld u s2.1 (Value.int .i64) fun (x155 : Int) =>
                  Ld u (s2.1.add 1) (Value.int .i64) fun (x156 : Int) =>
                  0 ≤ (i : Int) ∧ (i : Int) < ((p2.L.length : Nat) : Int) ∧ Nn (some a2) fun a157 =>
                  Ld u ((a157.add (i * 7)).add 3) (Value.int .i64) fun (x158 : Int) =>
                  Ld u (((a157.add (i * 7)).add 3).add 1) (Value.int .i64) fun (x159 : Int) =>
                  Br (!((x155 == x158) && ((x156 == x159) && true))) (false = true ∧ Ext (fun _ => False) W u) (∃ n', n' < p1.L.length - i ∧ ∃ k : Nat, IntKind.i64.wrap ((i : Int) + 1) = (k : Int) ∧ k ≤ p1.L.length ∧ n' = p1.L.length - k ∧ Ext (fun _ => False) w10 u))))) (∃ n', n' < p1.L.length - i ∧ ∃ k : Nat, IntKind.i64.wrap ((i : Int) + 1) = (k : Int) ∧ k ≤ p1.L.length ∧ n' = p1.L.length - k ∧ Ext (fun _ => False) w10 u) := by
      refine ⟨bi.1, bi.2, Nn.of (Ld.mk (g10 e) (Br.eq (fun h3 => ?_) fun _ => nxt e))⟩
      obtain ⟨q1, q2⟩ := k3 h3
      obtain ⟨x1, x2, x3⟩ := b1.yes q1
      obtain ⟨y1, y2, y3⟩ := b2.yes q2
      refine Br.ne (fun h => absurd x1 h) fun _ => Br.ne (fun h => absurd y1 h) fun _ => ?_
      refine Ld.mk x2 (Ld.mk x3 ⟨bi2.1, bi2.2, Nn.of (Ld.mk (g2 e 1 _ rfl) (Ld.mk (by rw [aa]; exact g2 e 2 _ rfl) (same2 rfl rfl ?_)))⟩)
      exact Ld.mk y2 (Ld.mk y3 ⟨bi2.1, bi2.2, Nn.of (Ld.mk (g2 e 3 _ rfl) (Ld.mk (by rw [aa]; exact g2 e 4 _ rfl) (same2 rfl rfl (nxt e))))⟩)
    refine Br.ne (fun h4 => ?_) fun _ => tail
    obtain ⟨z1, z2, z3⟩ := b3.yes (k2 h4)
    refine Br.ne (fun h => absurd z1 h) fun _ => ?_
    exact Ld.mk z2 (Ld.mk z3 ⟨bi2.1, bi2.2, Nn.of (Ld.mk (g2 e 5 _ rfl) (Ld.mk (by rw [aa]; exact g2 e 6 _ rfl) (same2 rfl rfl tail)))⟩)
  have KM : ∀ {v' : World}, Ext (fun _ => False) w10 v' → Blk v' W.heap.size (mrow m).toArray 23 := fun e => e.blk (K.get 0 rfl) id
  -- one image: called first, or made room for first
  have img : ∀ {v' : World} {X : (Addr × Int) → World → Prop} {pp : Int × Int}, Ext (fun _ => False) w10 v' → (∀ s v'', Ext (fun _ => False) v' v'' → PB v'' m s pp → X s v'') →
      (C45 m pp v' fun r183 r184 vw185 => Nw vw185 (.cells #[.int .i64 0, .int .i64 0] 43) fun vw186 => Sh.St vw186 (⟨vw185.heap.size, 0, none⟩ : Addr) (.int .i64 (r183.1)) fun vw187 =>
        Sh.St vw187 ((⟨vw185.heap.size, 0, none⟩ : Addr).add 1) (.int .i64 (r183.2)) fun vw188 => X ((⟨vw185.heap.size, 0, none⟩ : Addr), r184) vw188) ∧
      (Nw v' (.cells #[.int .i64 0, .int .i64 0] 43) fun vw189 => Ext (fun _ => False) w10 vw189 ∧ C45 m pp vw189 fun r190 r191 vw192 =>
        Sh.St vw192 (⟨v'.heap.size, 0, none⟩ : Addr) (.int .i64 (r190.1)) fun vw193 => Sh.St vw193 ((⟨v'.heap.size, 0, none⟩ : Addr).add 1) (.int .i64 (r190.2)) fun vw194 => X ((⟨v'.heap.size, 0, none⟩ : Addr), r191) vw194) := by
    intro v' X pp e k
    refine ⟨(r_apply m pp v').mono ?_, ?_⟩
    · rintro r e2 w11 ⟨hr, e11⟩
      refine (Hn.start w11).nw fun w12 L => ?_
      simp only [List.nil_append, add_lit, Nat.zero_add] at L ⊢
      iterate 2 (refine L.st 0 rfl (by simp) fun _ L => ?_; simp only [List.set_cons_zero, List.set_cons_succ] at L)
      exact k _ _ (e11.tr L.ext) ⟨_, r, rfl, hr, L.get 0 rfl⟩
    · refine (Hn.start v').nw fun w12 L => ⟨e.tr L.ext, (r_apply m pp w12).mono ?_⟩
      rintro r e2 w11 ⟨hr, e11⟩
      have L := L.keep e11
      simp only [List.nil_append, add_lit, Nat.zero_add] at L ⊢
      iterate 2 (refine L.st 0 rfl (by simp) fun _ L => ?_; simp only [List.set_cons_zero, List.set_cons_succ] at L)
      exact k _ _ L.ext ⟨_, r, rfl, hr, L.get 0 rfl⟩
  have ev := ev.drew
  refine Join.intro ⟨fun v' => Ext (fun _ => False) w10 v', ev, ?_⟩
  simp only [add_lit, Nat.zero_add]
  iterate 6 refine LdS.of (fun w' h' => KM h') rfl ?_
  rw [ha1, Int.toNat_natCast]
  refine ⟨bi.1, bi.2, Nn.of (ldS_mk (fun w' h' => g1 h' 1 _ rfl) (ldS_mk (fun w' h' => by rw [aa]; exact g1 h' 2 _ rfl) ?_))⟩
  refine img (pp := Sg.P o) ev fun s1 v1 ev1 b1 => ?_
  unfold S8J3
  have ev1 := (ev.tr ev1).drew
  have b1 := b1.keep (Ext.refl _ v1).drew
  rw [u1.1]
  refine Join.intro ⟨fun v' => Ext (fun _ => False) w10 v', ev1, ?_⟩
  simp only [add_lit, Nat.zero_add]
  iterate 6 refine LdS.of (fun w' h' => KM h') rfl ?_
  rw [ha1, Int.toNat_natCast]
  refine ⟨bi.1, bi.2, Nn.of (ldS_mk (fun w' h' => g1 h' 3 _ rfl) (ldS_mk (fun w' h' => by rw [aa]; exact g1 h' 4 _ rfl) ?_))⟩
  refine img (pp := Sg.Q o) ev1 fun s2 v2 ev2 b2 => ?_
  have b1 := (b1.keep ev2).keep (Ext.refl _ v2).drew
  have b2 := b2.keep (Ext.refl _ v2).drew
  unfold S8J2
  have ev2 := (ev1.tr ev2).drew
  rw [u1.1]
  refine Join.intro ⟨fun v' => Ext (fun _ => False) w10 v', ev2, ?_⟩
  simp only [add_lit, Nat.zero_add]
  iterate 6 refine LdS.of (fun w' h' => KM h') rfl ?_
  rw [ha1, Int.toNat_natCast]
  refine ⟨bi.1, bi.2, Nn.of (ldS_mk (fun w' h' => g1 h' 5 _ rfl) (ldS_mk (fun w' h' => by rw [aa]; exact g1 h' 6 _ rfl) ?_))⟩
  refine img (pp := Sg.R o) ev2 fun s3 v3 ev3 b3 => ?_
  exact j1 s1 s2 s3 v3 (ev2.tr ev3) (b1.keep ev3) (b2.keep ev3) b3
end
end Pat
end Go.Proofs.YtjbeembbnkmpeaaDoor
