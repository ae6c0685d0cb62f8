/- The formulas of 2 functions of the program, written by program (gen.py); the kernel checks each. No condition. -/
import Derived.Test.YtjbeembbnkmpeaaDoorQPDoes2
import Derived.Test.YtjbeembbnkmpeaaDoorQPDoes3
import Derived.Test.YtjbeembbnkmpeaaDoorQPDoes4
import Derived.Test.YtjbeembbnkmpeaaDoorQPDoes5
import Derived.Test.YtjbeembbnkmpeaaDoorQPDoes7
import Derived.Test.YtjbeembbnkmpeaaDoorQPDoes8
import Derived.Test.YtjbeembbnkmpeaaDoorQPDoes6
namespace Go.Proofs.YtjbeembbnkmpeaaDoor
open Sh
set_option linter.unusedVariables false
set_option maxRecDepth 100000

def C5 (l1 : Slc) (m2 : Int × Int × Int × Int × Int × Int) (g3 : TyA29) (w : World) (R : Bool → World → Prop) : Prop :=
  Calls Tryd.prog 5 #[Slc.v l1, .agg #[.int .i64 (m2.1), .int .i64 (m2.2.1), .int .i64 (m2.2.2.1), .int .i64 (m2.2.2.2.1), .int .i64 (m2.2.2.2.2.1), .int .i64 (m2.2.2.2.2.2)], .agg (Sig.cells LiA29 g3).toArray] w fun e w' => ∃ r0 : Bool, e = .returned (.bool r0) ∧ R r0 w'
theorem C5.mono {l1 : Slc} {m2 : Int × Int × Int × Int × Int × Int} {g3 : TyA29} {w : World} {R R' : Bool → World → Prop} (h : C5 l1 m2 g3 w R) (hr : ∀ r0 w', R r0 w' → R' r0 w') : C5 l1 m2 g3 w R' :=
  Calls.mono h fun _ _ ⟨r0, he, hR⟩ => ⟨r0, he, hr _ _ hR⟩
def C8 (l1 : Slc) (m2 : Int × Int × Int × Int × Int × Int) (w : World) (R : Bool → World → Prop) : Prop :=
  Calls Tryd.prog 8 #[Slc.v l1, .agg #[.int .i64 (m2.1), .int .i64 (m2.2.1), .int .i64 (m2.2.2.1), .int .i64 (m2.2.2.2.1), .int .i64 (m2.2.2.2.2.1), .int .i64 (m2.2.2.2.2.2)]] w fun e w' => ∃ r0 : Bool, e = .returned (.bool r0) ∧ R r0 w'
theorem C8.mono {l1 : Slc} {m2 : Int × Int × Int × Int × Int × Int} {w : World} {R R' : Bool → World → Prop} (h : C8 l1 m2 w R) (hr : ∀ r0 w', R r0 w' → R' r0 w') : C8 l1 m2 w R' :=
  Calls.mono h fun _ _ ⟨r0, he, hR⟩ => ⟨r0, he, hr _ _ hR⟩

def S5J1 (r6 : Option Addr) (vw7 : World) (s19 : Int) (I21 : Int → World → Prop) (R : Bool → World → Prop) (s99 : Unit) (vw100 : World) : Prop :=
  C25 r6 vw100 fun r101 vw102 =>
    C29 r101 vw102 fun r103 r104 vw105 =>
      Nw vw105 (.cells #[.int .i64 0, .int .i64 0, .int .i64 0, .int .i64 0] 72) fun vw106 =>
      St vw106 (⟨vw105.heap.size, 0, none⟩ : Addr) (.int .i64 (r103.1)) fun vw107 =>
      St vw107 ((⟨vw105.heap.size, 0, none⟩ : Addr).add 1) (.int .i64 (r103.2.1)) fun vw108 =>
      St vw108 ((⟨vw105.heap.size, 0, none⟩ : Addr).add 2) (.int .i64 (r103.2.2.1)) fun vw109 =>
      St vw109 ((⟨vw105.heap.size, 0, none⟩ : Addr).add 3) (.int .i64 (r103.2.2.2)) fun vw110 =>
      Ld vw110 (⟨vw7.heap.size, 0, none⟩ : Addr) Slc.v fun (x111 : Slc) =>
      C39 x111 vw110 fun r112 r113 vw114 =>
        Nw vw114 (.cells #[.int .i64 0, .int .i64 0, .int .i64 0, .int .i64 0] 72) fun vw115 =>
        St vw115 (⟨vw114.heap.size, 0, none⟩ : Addr) (.int .i64 (r112.1)) fun vw116 =>
        St vw116 ((⟨vw114.heap.size, 0, none⟩ : Addr).add 1) (.int .i64 (r112.2.1)) fun vw117 =>
        St vw117 ((⟨vw114.heap.size, 0, none⟩ : Addr).add 2) (.int .i64 (r112.2.2.1)) fun vw118 =>
        St vw118 ((⟨vw114.heap.size, 0, none⟩ : Addr).add 3) (.int .i64 (r112.2.2.2)) fun vw119 =>
        ∃ vS120 : World → Prop, vS120 vw119.drew ∧ LdS vS120 (⟨vw7.heap.size, 0, none⟩ : Addr) Slc.v fun (x121 : Slc) =>
        C40 r101 x121 vw119.drew fun r122 vw123 =>
          ∃ vS124 : World → Prop, vS124 vw123 ∧ Br (!r122) (R false vw123) (LdS vS124 (⟨vw105.heap.size, 0, none⟩ : Addr) (Value.int .i64) fun (x125 : Int) =>
            LdS vS124 ((⟨vw105.heap.size, 0, none⟩ : Addr).add 1) (Value.int .i64) fun (x126 : Int) =>
            LdS vS124 ((⟨vw105.heap.size, 0, none⟩ : Addr).add 2) (Value.int .i64) fun (x127 : Int) =>
            LdS vS124 ((⟨vw105.heap.size, 0, none⟩ : Addr).add 3) (Value.int .i64) fun (x128 : Int) =>
            LdS vS124 (⟨vw114.heap.size, 0, none⟩ : Addr) (Value.int .i64) fun (x129 : Int) =>
            LdS vS124 ((⟨vw114.heap.size, 0, none⟩ : Addr).add 1) (Value.int .i64) fun (x130 : Int) =>
            LdS vS124 ((⟨vw114.heap.size, 0, none⟩ : Addr).add 2) (Value.int .i64) fun (x131 : Int) =>
            LdS vS124 ((⟨vw114.heap.size, 0, none⟩ : Addr).add 3) (Value.int .i64) fun (x132 : Int) =>
            Br (!((x125 == x129) && ((x126 == x130) && ((x127 == x131) && ((x128 == x132) && true))))) (R false vw123) (Br (!(r104 == r113)) (R false vw123) (LdS vS124 (⟨vw7.heap.size, 0, none⟩ : Addr) Slc.v fun (x133 : Slc) =>
                LdS vS124 (⟨vw7.heap.size, 0, none⟩ : Addr) Slc.v fun (x134 : Slc) =>
                C28 r101 x133 vw123 fun r135 vw136 =>
                  vS124 vw136 ∧ C40 r101 x134 vw136 fun r137 vw138 =>
                    Br (!(r135 == r137)) (R false vw138) (I21 (IntKind.i64.wrap (s19 + 1)) vw138))))
def S5L1 (w : World) (l1 : Slc) (vw4 : World) (r6 : Option Addr) (vw7 : World) (R : Bool → World → Prop) (I21 : Int → World → Prop) (s19 : Int) (vw20 : World) : Prop :=
  Br (decide (s19 < ((l1.len : Nat) : Int))) (0 ≤ s19 ∧ s19 < (l1.len : Nat) ∧ Nn l1.p fun a22 =>
    Ld vw20 (a22.add ((s19).toNat * 3)) Value.string fun (x23 : ByteArray) =>
    Ld vw20 ((a22.add ((s19).toNat * 3)).add 1) Slc.v fun (x24 : Slc) =>
    Ld vw20 ((a22.add ((s19).toNat * 3)).add 2) Value.string fun (x25 : ByteArray) =>
    Nw vw20 (.cells #[.string ((⟨#[]⟩ : ByteArray)), Slc.v ((⟨none, 0, 0⟩ : Slc)), .string ((⟨#[]⟩ : ByteArray))] 63) fun vw26 =>
    St vw26 (⟨vw20.heap.size, 0, none⟩ : Addr) (.string x23) fun vw27 =>
    St vw27 ((⟨vw20.heap.size, 0, none⟩ : Addr).add 1) (Slc.v x24) fun vw28 =>
    St vw28 ((⟨vw20.heap.size, 0, none⟩ : Addr).add 2) (.string x25) fun vw29 =>
    Join (S5J1 r6 vw7 s19 I21 R) fun (vJ139 : Unit → World → Prop) =>
      Ld vw29 (⟨vw20.heap.size, 0, none⟩ : Addr) Value.string fun (x140 : ByteArray) =>
      C35 x140 vw29 fun r141 vw142 =>
        Br r141 (Ld vw142 (⟨vw20.heap.size, 0, none⟩ : Addr) Value.string fun (x143 : ByteArray) =>
          Ld vw142 ((⟨vw20.heap.size, 0, none⟩ : Addr).add 1) Slc.v fun (x144 : Slc) =>
          Ld vw142 ((⟨vw20.heap.size, 0, none⟩ : Addr).add 2) Value.string fun (x145 : ByteArray) =>
          LdT vw142 (⟨vw4.heap.size, 0, none⟩ : Addr) 0 LiA29 fun (x146 : TyA29) =>
          C30 r6 (x143, x144, x145) x146 vw142 fun r147 r148 r149 vw150 =>
            Nw vw150 (.cells #[.int .i64 0, Slc.v ((⟨none, 0, 0⟩ : Slc)), .int .i64 0, .int .i64 0, .int .i64 0, .int .i64 0, .int .i64 0, .int .i64 0, .int .i64 0, .int .i64 0, .int .i64 0, .int .i64 0] 76) fun vw151 =>
            StT (⟨vw150.heap.size, 0, none⟩ : Addr) 0 LiA75 r147 vw151 fun vw152 =>
            Ld vw152 (⟨vw7.heap.size, 0, none⟩ : Addr) Slc.v fun (x153 : Slc) =>
            Ld vw152 ((⟨vw7.heap.size, 0, none⟩ : Addr).add 1) Value.bool fun (x154 : Bool) =>
            Ld vw152 (⟨vw20.heap.size, 0, none⟩ : Addr) Value.string fun (x155 : ByteArray) =>
            Ld vw152 ((⟨vw20.heap.size, 0, none⟩ : Addr).add 1) Slc.v fun (x156 : Slc) =>
            Ld vw152 ((⟨vw20.heap.size, 0, none⟩ : Addr).add 2) Value.string fun (x157 : ByteArray) =>
            LdT vw152 (⟨vw4.heap.size, 0, none⟩ : Addr) 0 LiA29 fun (x158 : TyA29) =>
            C36 (x153, x154) (x155, x156, x157) x158 vw152 fun r159 r160 r161 r162 vw163 =>
              Nw vw163 (.cells #[Slc.v ((⟨none, 0, 0⟩ : Slc)), .bool false] 86) fun vw164 =>
              Nw vw164 (.cells #[.int .i64 0, Slc.v ((⟨none, 0, 0⟩ : Slc)), .int .i64 0, .int .i64 0, .int .i64 0, .int .i64 0, .int .i64 0, .int .i64 0, .int .i64 0, .int .i64 0, .int .i64 0, .int .i64 0] 76) fun vw165 =>
              St vw165 (⟨vw163.heap.size, 0, none⟩ : Addr) (Slc.v r159.1) fun vw166 =>
              St vw166 ((⟨vw163.heap.size, 0, none⟩ : Addr).add 1) (.bool r159.2) fun vw167 =>
              StT (⟨vw164.heap.size, 0, none⟩ : Addr) 0 LiA75 r160 vw167 fun vw168 =>
              LdT vw168 (⟨vw150.heap.size, 0, none⟩ : Addr) 0 LiA75 fun (x169 : TyA75) =>
              LdT vw168 (⟨vw164.heap.size, 0, none⟩ : Addr) 0 LiA75 fun (x170 : TyA75) =>
              C37 x169 x170 vw168 fun r171 vw172 =>
                Br (!r171) (R false vw172) (Br (!(r148 == r161)) (R false vw172) (Br (r149 != r162) (R false vw172) (Ld vw172 (⟨vw163.heap.size, 0, none⟩ : Addr) Slc.v fun (x173 : Slc) =>
                      Ld vw172 ((⟨vw163.heap.size, 0, none⟩ : Addr).add 1) Value.bool fun (x174 : Bool) =>
                      St vw172 (⟨vw7.heap.size, 0, none⟩ : Addr) (Slc.v x173) fun vw175 =>
                      St vw175 ((⟨vw7.heap.size, 0, none⟩ : Addr).add 1) (.bool x174) fun vw176 =>
                      vJ139 () vw176)))) (Ld vw142 (⟨vw20.heap.size, 0, none⟩ : Addr) Value.string fun (x177 : ByteArray) =>
          Ld vw142 ((⟨vw20.heap.size, 0, none⟩ : Addr).add 1) Slc.v fun (x178 : Slc) =>
          Ld vw142 ((⟨vw20.heap.size, 0, none⟩ : Addr).add 2) Value.string fun (x179 : ByteArray) =>
          Ld vw142 (⟨w.heap.size, 0, none⟩ : Addr) (Value.int .i64) fun (x180 : Int) =>
          Ld vw142 ((⟨w.heap.size, 0, none⟩ : Addr).add 1) (Value.int .i64) fun (x181 : Int) =>
          Ld vw142 ((⟨w.heap.size, 0, none⟩ : Addr).add 2) (Value.int .i64) fun (x182 : Int) =>
          Ld vw142 ((⟨w.heap.size, 0, none⟩ : Addr).add 3) (Value.int .i64) fun (x183 : Int) =>
          Ld vw142 ((⟨w.heap.size, 0, none⟩ : Addr).add 4) (Value.int .i64) fun (x184 : Int) =>
          Ld vw142 ((⟨w.heap.size, 0, none⟩ : Addr).add 5) (Value.int .i64) fun (x185 : Int) =>
          C23 r6 (x177, x178, x179) (x180, x181, x182, x183, x184, x185) vw142 fun r186 vw187 =>
            Ld vw187 (⟨vw7.heap.size, 0, none⟩ : Addr) Slc.v fun (x188 : Slc) =>
            Ld vw187 ((⟨vw7.heap.size, 0, none⟩ : Addr).add 1) Value.bool fun (x189 : Bool) =>
            Ld vw187 (⟨vw20.heap.size, 0, none⟩ : Addr) Value.string fun (x190 : ByteArray) =>
            Ld vw187 ((⟨vw20.heap.size, 0, none⟩ : Addr).add 1) Slc.v fun (x191 : Slc) =>
            Ld vw187 ((⟨vw20.heap.size, 0, none⟩ : Addr).add 2) Value.string fun (x192 : ByteArray) =>
            Ld vw187 (⟨w.heap.size, 0, none⟩ : Addr) (Value.int .i64) fun (x193 : Int) =>
            Ld vw187 ((⟨w.heap.size, 0, none⟩ : Addr).add 1) (Value.int .i64) fun (x194 : Int) =>
            Ld vw187 ((⟨w.heap.size, 0, none⟩ : Addr).add 2) (Value.int .i64) fun (x195 : Int) =>
            Ld vw187 ((⟨w.heap.size, 0, none⟩ : Addr).add 3) (Value.int .i64) fun (x196 : Int) =>
            Ld vw187 ((⟨w.heap.size, 0, none⟩ : Addr).add 4) (Value.int .i64) fun (x197 : Int) =>
            Ld vw187 ((⟨w.heap.size, 0, none⟩ : Addr).add 5) (Value.int .i64) fun (x198 : Int) =>
            C38 (x188, x189) (x190, x191, x192) (x193, x194, x195, x196, x197, x198) vw187 fun r199 r200 vw201 =>
              Nw vw201 (.cells #[Slc.v ((⟨none, 0, 0⟩ : Slc)), .bool false] 86) fun vw202 =>
              St vw202 (⟨vw201.heap.size, 0, none⟩ : Addr) (Slc.v r199.1) fun vw203 =>
              St vw203 ((⟨vw201.heap.size, 0, none⟩ : Addr).add 1) (.bool r199.2) fun vw204 =>
              Br (r186 != r200) (R false vw204) (Ld vw204 (⟨vw201.heap.size, 0, none⟩ : Addr) Slc.v fun (x205 : Slc) =>
                Ld vw204 ((⟨vw201.heap.size, 0, none⟩ : Addr).add 1) Value.bool fun (x206 : Bool) =>
                St vw204 (⟨vw7.heap.size, 0, none⟩ : Addr) (Slc.v x205) fun vw207 =>
                St vw207 ((⟨vw7.heap.size, 0, none⟩ : Addr).add 1) (.bool x206) fun vw208 =>
                vJ139 () vw208))) (C34 vw20 fun r209 vw210 =>
      R r209 vw210)
/-- foliant/foliantlaw45.PathDoes -/
def S5 (l1 : Slc) (m2 : Int × Int × Int × Int × Int × Int) (g3 : TyA29) (w : World) (R : Bool → World → Prop) : Prop :=
  Nw w (.cells #[.int .i64 (m2.1), .int .i64 (m2.2.1), .int .i64 (m2.2.2.1), .int .i64 (m2.2.2.2.1), .int .i64 (m2.2.2.2.2.1), .int .i64 (m2.2.2.2.2.2)] 23) fun vw4 =>
  Nw vw4 (.cells (Sig.cells LiA29 g3).toArray 30) fun vw5 =>
  C22 vw5 fun r6 vw7 =>
    Nw vw7 (.cells #[Slc.v ((⟨none, 0, 0⟩ : Slc)), .bool false] 86) fun vw8 =>
    St vw8 (⟨vw7.heap.size, 0, none⟩ : Addr) (Slc.v ((⟨none, 0, 0⟩ : Slc))) fun vw9 =>
    St vw9 ((⟨vw7.heap.size, 0, none⟩ : Addr).add 1) (.bool false) fun vw10 =>
    Br r6.isNone (R false vw10) (C33 l1 vw10 fun r15 vw16 =>
        Br (!r15) (C34 vw16 fun r17 vw18 =>
            R r17 vw18) (Lp (σ := Int) (S5L1 w l1 vw4 r6 vw7 R) 0 vw16))
def pl5 : Plan := (.seq (.reg .seq) (.seq (.reg .seq) (.seq (.seq (.reg .seq) (.cond (.seq (.reg .seq) .leaf) .leaf)) (.seq (.seq (.reg .seq) (.cond (.seq (.reg .seq) .leaf) .leaf)) (.seq (.seq (.reg .seq) (.block (.loop [(36, (.one (.int .i64)))] [4, 5, 7, 8, 34, 35] (.seq (.reg .seq) (.seq (.cond .leaf .leaf) (.seq (.block (.seq (.reg .seq) (.join [] [4, 5, 7, 8, 34, 35, 36] (.seq (.reg .seq) (.cond (.seq (.reg .seq) (.seq (.reg .seq) (.seq (.seq (.reg .seq) (.cond (.seq (.reg .seq) .leaf) .leaf)) (.reg .seq)))) (.seq (.reg .seq) (.seq (.reg .seq) (.seq (.seq (.reg .seq) (.cond (.seq (.reg .seq) .leaf) .leaf)) (.reg .seq)))))) (.seq (.reg .seq) (.seq (.reg .seq) (.seq (.reg .seq) (.seq (.reg (.held [3] (.take 0 (.take 1 (.take 2 (.eff 3 (some [23]) (.take 4 (.take 5 (.take 6 (.take 7 (.take 8 (.take 9 (.take 10 (.take 11 (.take 12 (.take 13 (.take 14 (.take 15 (.take 16 (.take 17 (.take 18 (.take 20 (.take 21 (.take 22 (.eff 19 none (.eff 23 (some []) (.take 24 (.take 25 .done)))))))))))))))))))))))))))) (.cond (.seq (.reg .seq) .leaf) .leaf)))))))) (.reg .seq))))))) (.seq (.reg .seq) .leaf))))))
set_option maxRecDepth 100000 in
theorem T5 (l1 : Slc) (m2 : Int × Int × Int × Int × Int × Int) (g3 : TyA29) (w : World) (R : Bool → World → Prop) (h : S5 l1 m2 g3 w R) : C5 l1 (m2.1, m2.2.1, m2.2.2.1, m2.2.2.2.1, m2.2.2.2.2.1, m2.2.2.2.2.2) g3 w R := by
  have e : fnT Tryd.prog ⟨FF, MAY, (fun _ _ => False)⟩ pl5 Tryd.f5 [Slc.v l1, .agg #[.int .i64 (m2.1), .int .i64 (m2.2.1), .int .i64 (m2.2.2.1), .int .i64 (m2.2.2.2.1), .int .i64 (m2.2.2.2.2.1), .int .i64 (m2.2.2.2.2.2)], .agg (Sig.cells LiA29 g3).toArray] w [(.one .bool)] (fun s w => R s w) = S5 l1 m2 g3 w R := by kernel_rfl
  exact (fn_calls okF okM Tryd.func5 (by kernel_rfl) (by kernel_rfl) (e.mpr h)).mono fun _ _ ⟨s, he, hR⟩ => ⟨s, he, hR⟩

def S8J1 (r58 : Slc) (r60 : Slc) (s62 : Int) (I64 : Int → World → Prop) (s87 : Addr × Int) (s111 : Addr × Int) (R : Bool → World → Prop) (s135 : Addr × Int) (vw136 : World) : Prop :=
  0 ≤ s62 ∧ s62 < (r58.len : Nat) ∧ Nn r58.p fun a137 =>
  Ld vw136.drew (a137.add ((s62).toNat * 7)) (Value.int .i64) fun (x138 : Int) =>
  0 ≤ s62 ∧ s62 < (r60.len : Nat) ∧ Nn r60.p fun a139 =>
  Ld vw136.drew (a139.add ((s62).toNat * 7)) (Value.int .i64) fun (x140 : Int) =>
  Br (x138 != x140) (R false vw136.drew) (0 ≤ s62 ∧ s62 < (r58.len : Nat) ∧ Nn r58.p fun a141 =>
    Ld vw136.drew (a141.add ((s62).toNat * 7)) (Value.int .i64) fun (x142 : Int) =>
    Br (x142 != 4) (Br (s135.2 != 0) (R false vw136.drew) (Ld vw136.drew s135.1 (Value.int .i64) fun (x143 : Int) =>
        Ld vw136.drew (s135.1.add 1) (Value.int .i64) fun (x144 : Int) =>
        0 ≤ s62 ∧ s62 < (r60.len : Nat) ∧ Nn r60.p fun a145 =>
        Ld vw136.drew ((a145.add ((s62).toNat * 7)).add 5) (Value.int .i64) fun (x146 : Int) =>
        Ld vw136.drew (((a145.add ((s62).toNat * 7)).add 5).add 1) (Value.int .i64) fun (x147 : Int) =>
        Br (!((x143 == x146) && ((x144 == x147) && true))) (R false vw136.drew) (0 ≤ s62 ∧ s62 < (r58.len : Nat) ∧ Nn r58.p fun a148 =>
          Ld vw136.drew (a148.add ((s62).toNat * 7)) (Value.int .i64) fun (x149 : Int) =>
          Br (x149 == 3) (Br (s87.2 != 0) (R false vw136.drew) (Br (s111.2 != 0) (R false vw136.drew) (Ld vw136.drew s87.1 (Value.int .i64) fun (x150 : Int) =>
                Ld vw136.drew (s87.1.add 1) (Value.int .i64) fun (x151 : Int) =>
                0 ≤ s62 ∧ s62 < (r60.len : Nat) ∧ Nn r60.p fun a152 =>
                Ld vw136.drew ((a152.add ((s62).toNat * 7)).add 1) (Value.int .i64) fun (x153 : Int) =>
                Ld vw136.drew (((a152.add ((s62).toNat * 7)).add 1).add 1) (Value.int .i64) fun (x154 : Int) =>
                Br (!((x150 == x153) && ((x151 == x154) && true))) (R false vw136.drew) (Ld vw136.drew s111.1 (Value.int .i64) fun (x155 : Int) =>
                  Ld vw136.drew (s111.1.add 1) (Value.int .i64) fun (x156 : Int) =>
                  0 ≤ s62 ∧ s62 < (r60.len : Nat) ∧ Nn r60.p fun a157 =>
                  Ld vw136.drew ((a157.add ((s62).toNat * 7)).add 3) (Value.int .i64) fun (x158 : Int) =>
                  Ld vw136.drew (((a157.add ((s62).toNat * 7)).add 3).add 1) (Value.int .i64) fun (x159 : Int) =>
                  Br (!((x155 == x158) && ((x156 == x159) && true))) (R false vw136.drew) (I64 (IntKind.i64.wrap (s62 + 1)) vw136.drew))))) (I64 (IntKind.i64.wrap (s62 + 1)) vw136.drew)))) (0 ≤ s62 ∧ s62 < (r58.len : Nat) ∧ Nn r58.p fun a160 =>
      Ld vw136.drew (a160.add ((s62).toNat * 7)) (Value.int .i64) fun (x161 : Int) =>
      Br (x161 == 3) (Br (s87.2 != 0) (R false vw136.drew) (Br (s111.2 != 0) (R false vw136.drew) (Ld vw136.drew s87.1 (Value.int .i64) fun (x162 : Int) =>
            Ld vw136.drew (s87.1.add 1) (Value.int .i64) fun (x163 : Int) =>
            0 ≤ s62 ∧ s62 < (r60.len : Nat) ∧ Nn r60.p fun a164 =>
            Ld vw136.drew ((a164.add ((s62).toNat * 7)).add 1) (Value.int .i64) fun (x165 : Int) =>
            Ld vw136.drew (((a164.add ((s62).toNat * 7)).add 1).add 1) (Value.int .i64) fun (x166 : Int) =>
            Br (!((x162 == x165) && ((x163 == x166) && true))) (R false vw136.drew) (Ld vw136.drew s111.1 (Value.int .i64) fun (x167 : Int) =>
              Ld vw136.drew (s111.1.add 1) (Value.int .i64) fun (x168 : Int) =>
              0 ≤ s62 ∧ s62 < (r60.len : Nat) ∧ Nn r60.p fun a169 =>
              Ld vw136.drew ((a169.add ((s62).toNat * 7)).add 3) (Value.int .i64) fun (x170 : Int) =>
              Ld vw136.drew (((a169.add ((s62).toNat * 7)).add 3).add 1) (Value.int .i64) fun (x171 : Int) =>
              Br (!((x167 == x170) && ((x168 == x171) && true))) (R false vw136.drew) (I64 (IntKind.i64.wrap (s62 + 1)) vw136.drew))))) (I64 (IntKind.i64.wrap (s62 + 1)) vw136.drew)))
def S8J2 (w : World) (r58 : Slc) (r60 : Slc) (s62 : Int) (I64 : Int → World → Prop) (s87 : Addr × Int) (R : Bool → World → Prop) (s111 : Addr × Int) (vw112 : World) : Prop :=
  Join (S8J1 r58 r60 s62 I64 s87 s111 R) fun (vJ172 : (Addr × Int) → World → Prop) =>
    ∃ vS173 : World → Prop, vS173 vw112.drew ∧ LdS vS173 (⟨w.heap.size, 0, none⟩ : Addr) (Value.int .i64) fun (x174 : Int) =>
    LdS vS173 ((⟨w.heap.size, 0, none⟩ : Addr).add 1) (Value.int .i64) fun (x175 : Int) =>
    LdS vS173 ((⟨w.heap.size, 0, none⟩ : Addr).add 2) (Value.int .i64) fun (x176 : Int) =>
    LdS vS173 ((⟨w.heap.size, 0, none⟩ : Addr).add 3) (Value.int .i64) fun (x177 : Int) =>
    LdS vS173 ((⟨w.heap.size, 0, none⟩ : Addr).add 4) (Value.int .i64) fun (x178 : Int) =>
    LdS vS173 ((⟨w.heap.size, 0, none⟩ : Addr).add 5) (Value.int .i64) fun (x179 : Int) =>
    0 ≤ s62 ∧ s62 < (r58.len : Nat) ∧ Nn r58.p fun a180 =>
    LdS vS173 ((a180.add ((s62).toNat * 7)).add 5) (Value.int .i64) fun (x181 : Int) =>
    LdS vS173 (((a180.add ((s62).toNat * 7)).add 5).add 1) (Value.int .i64) fun (x182 : Int) =>
    (C45 (x174, x175, x176, x177, x178, x179) (x181, x182) vw112.drew fun r183 r184 vw185 =>
        Nw vw185 (.cells #[.int .i64 0, .int .i64 0] 43) fun vw186 =>
        St vw186 (⟨vw185.heap.size, 0, none⟩ : Addr) (.int .i64 (r183.1)) fun vw187 =>
        St vw187 ((⟨vw185.heap.size, 0, none⟩ : Addr).add 1) (.int .i64 (r183.2)) fun vw188 =>
        vJ172 ((⟨vw185.heap.size, 0, none⟩ : Addr), r184) vw188) ∧
    (Nw vw112.drew (.cells #[.int .i64 0, .int .i64 0] 43) fun vw189 =>
      vS173 vw189 ∧ C45 (x174, x175, x176, x177, x178, x179) (x181, x182) vw189 fun r190 r191 vw192 =>
        St vw192 (⟨vw112.drew.heap.size, 0, none⟩ : Addr) (.int .i64 (r190.1)) fun vw193 =>
        St vw193 ((⟨vw112.drew.heap.size, 0, none⟩ : Addr).add 1) (.int .i64 (r190.2)) fun vw194 =>
        vJ172 ((⟨vw112.drew.heap.size, 0, none⟩ : Addr), r191) vw194)
def S8J3 (w : World) (r58 : Slc) (r60 : Slc) (s62 : Int) (I64 : Int → World → Prop) (R : Bool → World → Prop) (s87 : Addr × Int) (vw88 : World) : Prop :=
  Join (S8J2 w r58 r60 s62 I64 s87 R) fun (vJ195 : (Addr × Int) → World → Prop) =>
    ∃ vS196 : World → Prop, vS196 vw88.drew ∧ LdS vS196 (⟨w.heap.size, 0, none⟩ : Addr) (Value.int .i64) fun (x197 : Int) =>
    LdS vS196 ((⟨w.heap.size, 0, none⟩ : Addr).add 1) (Value.int .i64) fun (x198 : Int) =>
    LdS vS196 ((⟨w.heap.size, 0, none⟩ : Addr).add 2) (Value.int .i64) fun (x199 : Int) =>
    LdS vS196 ((⟨w.heap.size, 0, none⟩ : Addr).add 3) (Value.int .i64) fun (x200 : Int) =>
    LdS vS196 ((⟨w.heap.size, 0, none⟩ : Addr).add 4) (Value.int .i64) fun (x201 : Int) =>
    LdS vS196 ((⟨w.heap.size, 0, none⟩ : Addr).add 5) (Value.int .i64) fun (x202 : Int) =>
    0 ≤ s62 ∧ s62 < (r58.len : Nat) ∧ Nn r58.p fun a203 =>
    LdS vS196 ((a203.add ((s62).toNat * 7)).add 3) (Value.int .i64) fun (x204 : Int) =>
    LdS vS196 (((a203.add ((s62).toNat * 7)).add 3).add 1) (Value.int .i64) fun (x205 : Int) =>
    (C45 (x197, x198, x199, x200, x201, x202) (x204, x205) vw88.drew fun r206 r207 vw208 =>
        Nw vw208 (.cells #[.int .i64 0, .int .i64 0] 43) fun vw209 =>
        St vw209 (⟨vw208.heap.size, 0, none⟩ : Addr) (.int .i64 (r206.1)) fun vw210 =>
        St vw210 ((⟨vw208.heap.size, 0, none⟩ : Addr).add 1) (.int .i64 (r206.2)) fun vw211 =>
        vJ195 ((⟨vw208.heap.size, 0, none⟩ : Addr), r207) vw211) ∧
    (Nw vw88.drew (.cells #[.int .i64 0, .int .i64 0] 43) fun vw212 =>
      vS196 vw212 ∧ C45 (x197, x198, x199, x200, x201, x202) (x204, x205) vw212 fun r213 r214 vw215 =>
        St vw215 (⟨vw88.drew.heap.size, 0, none⟩ : Addr) (.int .i64 (r213.1)) fun vw216 =>
        St vw216 ((⟨vw88.drew.heap.size, 0, none⟩ : Addr).add 1) (.int .i64 (r213.2)) fun vw217 =>
        vJ195 ((⟨vw88.drew.heap.size, 0, none⟩ : Addr), r214) vw217)
def S8L1 (w : World) (r58 : Slc) (r60 : Slc) (R : Bool → World → Prop) (I64 : Int → World → Prop) (s62 : Int) (vw63 : World) : Prop :=
  Br (decide (s62 < ((r58.len : Nat) : Int))) (Join (S8J3 w r58 r60 s62 I64 R) fun (vJ218 : (Addr × Int) → World → Prop) =>
      ∃ vS219 : World → Prop, vS219 vw63.drew ∧ LdS vS219 (⟨w.heap.size, 0, none⟩ : Addr) (Value.int .i64) fun (x220 : Int) =>
      LdS vS219 ((⟨w.heap.size, 0, none⟩ : Addr).add 1) (Value.int .i64) fun (x221 : Int) =>
      LdS vS219 ((⟨w.heap.size, 0, none⟩ : Addr).add 2) (Value.int .i64) fun (x222 : Int) =>
      LdS vS219 ((⟨w.heap.size, 0, none⟩ : Addr).add 3) (Value.int .i64) fun (x223 : Int) =>
      LdS vS219 ((⟨w.heap.size, 0, none⟩ : Addr).add 4) (Value.int .i64) fun (x224 : Int) =>
      LdS vS219 ((⟨w.heap.size, 0, none⟩ : Addr).add 5) (Value.int .i64) fun (x225 : Int) =>
      0 ≤ s62 ∧ s62 < (r58.len : Nat) ∧ Nn r58.p fun a226 =>
      LdS vS219 ((a226.add ((s62).toNat * 7)).add 1) (Value.int .i64) fun (x227 : Int) =>
      LdS vS219 (((a226.add ((s62).toNat * 7)).add 1).add 1) (Value.int .i64) fun (x228 : Int) =>
      (C45 (x220, x221, x222, x223, x224, x225) (x227, x228) vw63.drew fun r229 r230 vw231 =>
          Nw vw231 (.cells #[.int .i64 0, .int .i64 0] 43) fun vw232 =>
          St vw232 (⟨vw231.heap.size, 0, none⟩ : Addr) (.int .i64 (r229.1)) fun vw233 =>
          St vw233 ((⟨vw231.heap.size, 0, none⟩ : Addr).add 1) (.int .i64 (r229.2)) fun vw234 =>
          vJ218 ((⟨vw231.heap.size, 0, none⟩ : Addr), r230) vw234) ∧
      (Nw vw63.drew (.cells #[.int .i64 0, .int .i64 0] 43) fun vw235 =>
        vS219 vw235 ∧ C45 (x220, x221, x222, x223, x224, x225) (x227, x228) vw235 fun r236 r237 vw238 =>
          St vw238 (⟨vw63.drew.heap.size, 0, none⟩ : Addr) (.int .i64 (r236.1)) fun vw239 =>
          St vw239 ((⟨vw63.drew.heap.size, 0, none⟩ : Addr).add 1) (.int .i64 (r236.2)) fun vw240 =>
          vJ218 ((⟨vw63.drew.heap.size, 0, none⟩ : Addr), r237) vw240)) (R true vw63)
def S8L2 (w : World) (l1 : Slc) (R : Bool → World → Prop) (I30 : Int → World → Prop) (s28 : Int) (vw29 : World) : Prop :=
  Br (decide (s28 < ((l1.len : Nat) : Int))) (0 ≤ s28 ∧ s28 < (l1.len : Nat) ∧ Nn l1.p fun a31 =>
    Ld vw29 (a31.add ((s28).toNat * 3)) Value.string fun (x32 : ByteArray) =>
    Ld vw29 ((a31.add ((s28).toNat * 3)).add 1) Slc.v fun (x33 : Slc) =>
    Ld vw29 ((a31.add ((s28).toNat * 3)).add 2) Value.string fun (x34 : ByteArray) =>
    Nw vw29 (.cells #[.string ((⟨#[]⟩ : ByteArray)), Slc.v ((⟨none, 0, 0⟩ : Slc)), .string ((⟨#[]⟩ : ByteArray))] 63) fun vw35 =>
    St vw35 (⟨vw29.heap.size, 0, none⟩ : Addr) (.string x32) fun vw36 =>
    St vw36 ((⟨vw29.heap.size, 0, none⟩ : Addr).add 1) (Slc.v x33) fun vw37 =>
    St vw37 ((⟨vw29.heap.size, 0, none⟩ : Addr).add 2) (.string x34) fun vw38 =>
    Ld vw38 (⟨vw29.heap.size, 0, none⟩ : Addr) Value.string fun (x39 : ByteArray) =>
    Ld vw38 ((⟨vw29.heap.size, 0, none⟩ : Addr).add 1) Slc.v fun (x40 : Slc) =>
    Ld vw38 ((⟨vw29.heap.size, 0, none⟩ : Addr).add 2) Value.string fun (x41 : ByteArray) =>
    C43 (x39, x40, x41) vw38 fun r42 vw43 =>
      Br (r42 != 0) (R true vw43) (I30 (IntKind.i64.wrap (s28 + 1)) vw43)) (C44 vw29 fun r44 vw45 =>
      C41 l1 (r44.1, r44.2.1, r44.2.2.1, r44.2.2.2.1, r44.2.2.2.2.1, r44.2.2.2.2.2) vw45 fun r46 r47 vw48 =>
        Ld vw48 (⟨w.heap.size, 0, none⟩ : Addr) (Value.int .i64) fun (x49 : Int) =>
        Ld vw48 ((⟨w.heap.size, 0, none⟩ : Addr).add 1) (Value.int .i64) fun (x50 : Int) =>
        Ld vw48 ((⟨w.heap.size, 0, none⟩ : Addr).add 2) (Value.int .i64) fun (x51 : Int) =>
        Ld vw48 ((⟨w.heap.size, 0, none⟩ : Addr).add 3) (Value.int .i64) fun (x52 : Int) =>
        Ld vw48 ((⟨w.heap.size, 0, none⟩ : Addr).add 4) (Value.int .i64) fun (x53 : Int) =>
        Ld vw48 ((⟨w.heap.size, 0, none⟩ : Addr).add 5) (Value.int .i64) fun (x54 : Int) =>
        C41 l1 (x49, x50, x51, x52, x53, x54) vw48 fun r55 r56 vw57 =>
          Br (!r47) (R true vw57) (Br (!r56) (R true vw57) (C25 r46 vw57 fun r58 vw59 =>
                C25 r55 vw59 fun r60 vw61 =>
                  Br (((r58.len : Nat) : Int) != ((r60.len : Nat) : Int)) (R false vw61) (Lp (σ := Int) (S8L1 w r58 r60 R) 0 vw61))))
/-- foliant/foliantlaw45.PathLed -/
def S8 (l1 : Slc) (m2 : Int × Int × Int × Int × Int × Int) (w : World) (R : Bool → World → Prop) : Prop :=
  Nw w (.cells #[.int .i64 (m2.1), .int .i64 (m2.2.1), .int .i64 (m2.2.2.1), .int .i64 (m2.2.2.2.1), .int .i64 (m2.2.2.2.2.1), .int .i64 (m2.2.2.2.2.2)] 23) fun vw3 =>
  C34 vw3 fun r6 vw7 =>
    Br (!r6) (R false vw7) (C33 l1 vw7 fun r10 vw11 =>
        Br (!r10) (R true vw11) (Lp (σ := Int) (S8L2 w l1 R) 0 vw11))
def pl8 : Plan := (.seq (.reg .seq) (.seq (.seq (.reg .seq) (.cond (.seq (.reg .seq) .leaf) .leaf)) (.seq (.seq (.reg .seq) (.cond (.seq (.reg .seq) .leaf) .leaf)) (.seq (.seq (.reg .seq) (.block (.loop [(27, (.one (.int .i64)))] [0, 3, 25, 26] (.seq (.reg .seq) (.seq (.cond .leaf .leaf) (.seq (.block (.seq (.reg .seq) (.seq (.reg .seq) (.cond (.seq (.reg .seq) .leaf) .leaf)))) (.reg .seq))))))) (.seq (.reg .seq) (.seq (.reg .seq) (.seq (.seq (.reg .seq) (.cond (.seq (.reg .seq) .leaf) .leaf)) (.seq (.reg .seq) (.seq (.seq (.reg .seq) (.cond (.seq (.reg .seq) .leaf) .leaf)) (.seq (.seq (.reg .seq) (.block (.loop [(64, (.one (.int .i64)))] [3, 11, 12, 63] (.seq (.reg .seq) (.seq (.cond .leaf .leaf) (.seq (.block (.seq (.reg .seq) (.join [(14, (.one .addr)), (15, (.one (.int .i64)))] [3, 11, 12, 13, 63, 64] (.reg (.held [6] (.take 0 (.take 1 (.take 2 (.take 3 (.take 4 (.take 5 (.effs 6 (some [10]) (.take 7 (.take 8 (.take 9 (.eff 10 (some [11]) (.eff 11 (some []) (.take 12 .done)))))) (.eff 10 none (.eff 6 (some [11]) (.take 7 (.take 8 (.take 9 (.eff 11 (some []) (.take 12 .done)))))))))))))))) (.join [(16, (.one .addr)), (17, (.one (.int .i64)))] [3, 11, 12, 13, 14, 15, 63, 64] (.reg (.held [6] (.take 0 (.take 1 (.take 2 (.take 3 (.take 4 (.take 5 (.effs 6 (some [10]) (.take 7 (.take 8 (.take 9 (.eff 10 (some [11]) (.eff 11 (some []) (.take 12 .done)))))) (.eff 10 none (.eff 6 (some [11]) (.take 7 (.take 8 (.take 9 (.eff 11 (some []) (.take 12 .done)))))))))))))))) (.join [(18, (.one .addr)), (19, (.one (.int .i64)))] [3, 11, 12, 13, 14, 15, 16, 17, 63, 64] (.reg (.held [6] (.take 0 (.take 1 (.take 2 (.take 3 (.take 4 (.take 5 (.effs 6 (some [10]) (.take 7 (.take 8 (.take 9 (.eff 10 (some [11]) (.eff 11 (some []) (.take 12 .done)))))) (.eff 10 none (.eff 6 (some [11]) (.take 7 (.take 8 (.take 9 (.eff 11 (some []) (.take 12 .done)))))))))))))))) (.seq (.reg .still) (.cond (.seq (.reg .seq) .leaf) .leaf))))))) (.reg .seq))))))) (.seq (.reg .seq) .leaf)))))))))))
set_option maxRecDepth 100000 in
theorem T8 (l1 : Slc) (m2 : Int × Int × Int × Int × Int × Int) (w : World) (R : Bool → World → Prop) (h : S8 l1 m2 w R) : C8 l1 (m2.1, m2.2.1, m2.2.2.1, m2.2.2.2.1, m2.2.2.2.2.1, m2.2.2.2.2.2) w R := by
  have e : fnT Tryd.prog ⟨FF, MAY, (fun _ _ => False)⟩ pl8 Tryd.f8 [Slc.v l1, .agg #[.int .i64 (m2.1), .int .i64 (m2.2.1), .int .i64 (m2.2.2.1), .int .i64 (m2.2.2.2.1), .int .i64 (m2.2.2.2.2.1), .int .i64 (m2.2.2.2.2.2)]] w [(.one .bool)] (fun s w => R s w) = S8 l1 m2 w R := by kernel_rfl
  exact (fn_calls okF okM Tryd.func8 (by kernel_rfl) (by kernel_rfl) (e.mpr h)).mono fun _ _ ⟨s, he, hR⟩ => ⟨s, he, hR⟩

end Go.Proofs.YtjbeembbnkmpeaaDoor

/- Paths: lists of operators played; PathLed. Conditions: the tables are laid; Box. -/
namespace Go.Proofs.YtjbeembbnkmpeaaDoor
namespace Pat
open Sh Mat Fix Opr
set_option linter.unusedVariables false
set_option linter.unusedSimpArgs false
set_option maxRecDepth 8000
set_option maxHeartbeats 8000000
/-- Operators of a slice that can be read. -/
structure OpsR (w : World) (s : Slc) (Q : List OpA) : Prop where
  len : s.len = Q.length
  at' : ∀ (i : Nat) (q : OpA), Q[i]? = some q → ∃ a, s.p = some a ∧ w.cell? (a.add (i * 3)) = some (.string q.1.1) ∧ w.cell? ((a.add (i * 3)).add 1) = some (Slc.v q.1.2.1) ∧ w.cell? ((a.add (i * 3)).add 2) = some (.string q.1.2.2)
  ok : ∀ q ∈ Q, OV w q.1.2.1 q.2 ∧ q.2.length ≤ 9223372036854775807
theorem OpsR.keep {w w' : World} {s : Slc} {Q : List OpA} (h : OpsR w s Q) (he : Ext (fun _ => False) w w') : OpsR w' s Q :=
  ⟨h.len, fun i q hi => by
    obtain ⟨a, h0, h1, h2, h3⟩ := h.at' i q hi
    exact ⟨a, h0, he.cell_same h1, he.cell_same h2, he.cell_same h3⟩, fun q hq => ⟨(h.ok q hq).1.keep he, (h.ok q hq).2⟩⟩
theorem OpsV.r {w : World} {s : Slc} {Q : List OpA} (h : OpsV w s Q) : OpsR w s Q :=
  ⟨h.len, h.at', fun q hq => by
    obtain ⟨_, n, h1, h2, _⟩ := h.ok q hq
    have := maxLen_le
    exact ⟨h2, by omega⟩⟩
section
variable {w0 w w' w1 : World} {s sg : Slc} {Q : List OpA} {b : Nat} {p : Pa} {m : Mx}
attribute [local irreducible] Ld Sh.St Nw Nn LdS LdT LdST StT
/-- What played gives. -/
def PlR (w w1 : World) (o : Option Pa) (r : Option Addr) (ok : Bool) : Prop := match o with
  | none => ok = false
  | some p => ok = true ∧ ∃ b sg, r = some ⟨b, 0, none⟩ ∧ w.heap.size ≤ b ∧ PV w1 b p sg ∧ ∀ j, sg.own j → w.heap.size ≤ j
theorem c_played (hs : AS w) (h : OpsR w s Q) (hmost : Q.length ≤ 1000000000) : C41 s m w fun r ok w1 => Ext (fun _ => False) w w1 ∧ PlR w w1 (playP m (Q.map poOf) pa0) r ok := by
  refine T41 _ m _ _ ?_
  unfold S41
  refine (Hn.start w).nw fun w2 K => ?_
  simp only [List.nil_append, add_lit, Nat.zero_add] at K ⊢
  have s2 : w.heap.size < w2.heap.size := K.lt 0 rfl
  refine (c_new w2).mono ?_
  rintro r w4 ⟨b, rfl, hb, hpv, e4⟩
  have K := K.keep e4
  have H : LS w w4 b pa0 nilS [(w.heap.size, mrow m, 23)] [] := ⟨K.ext, hpv, fun j hj => (by obtain ⟨a', ha, _⟩ := hj; cases ha), by omega, fun q hq => by
    rw [List.mem_singleton.1 hq]
    exact ⟨K.get 0 rfl, fun hj => (by obtain ⟨a', ha, _⟩ := hj; cases ha), by show w.heap.size ≠ b; omega⟩, fun q hq => (List.not_mem_nil hq).elim⟩
  refine ⟨fun n st v => ∃ (i : Nat) (p : Pa) (sg : Slc), st = (i : Int) ∧ i ≤ Q.length ∧ n = Q.length - i ∧ playP m ((Q.map poOf).take i) pa0 = some p ∧ LS w v b p sg [(w.heap.size, mrow m, 23)] [], Q.length, ⟨0, pa0, nilS, rfl, by omega, rfl, rfl, H⟩, ?_⟩
  clear H K e4 hpv hb
  rintro n st v ⟨i, p, sg, rfl, hi, rfl, hpl, H⟩
  unfold S41L1
  rw [h.len]
  refine Br.dec (fun q => ⟨by omega, by omega, ?_⟩) fun q => ?_
  · have hlt : i < Q.length := by omega
    have ho : Q[i]? = some Q[i] := List.getElem?_eq_getElem hlt
    have hstep := play_take m (Q.map poOf) i (by rw [List.length_map]; exact hlt) pa0
    rw [List.getElem_map, hpl, Option.bind_some] at hstep
    obtain ⟨hov, hql⟩ := (h.keep H.ext).ok Q[i] (List.getElem_mem hlt)
    generalize Q[i] = o at ho hstep hov hql
    obtain ⟨a, ha, c0, c1, c2⟩ := (h.keep H.ext).at' i o ho
    rw [ha, Int.toNat_natCast]
    refine Nn.of (Ld.mk c0 (Ld.mk c1 (Ld.mk c2 ?_)))
    have P0 := H.pv
    refine (Hn.start v).nw fun w6 K => ?_
    simp only [List.nil_append, add_lit, Nat.zero_add] at K ⊢
    iterate 3 (refine K.st 0 rfl (by simp) fun _ K => ?_; simp only [List.set_cons_zero, List.set_cons_succ] at K)
    have H := (H.keep K.ext).push (K.get 0 rfl) P0 (Nat.le_refl _)
    have hov := hov.keep K.ext
    simp only [List.cons_append, List.nil_append] at H
    have opb := H.get 1 rfl
    have mb := H.get 0 rfl
    refine Br.f rfl ?_
    iterate 3 refine Ld.of opb rfl ?_
    iterate 6 refine Ld.of mb rfl ?_
    refine (LS.do_ hs H hov hql rfl).mono ?_
    rintro r124 w9 ⟨rfl, sg', H⟩
    have hi1 : IntKind.i64.wrap ((i : Int) + 1) = ((i + 1 : Nat) : Int) := by rw [i64_id (by omega)]; rfl
    refine Br.ne (fun hne => ⟨H.ext, ?_⟩) fun he => ?_
    · rw [if_neg (show ¬ (doP p (poOf o).1 (poOf o).2.1 (poOf o).2.2 m).1 = 0 from hne)] at hstep
      rw [play_none hstep]
      rfl
    · rw [if_pos (show (doP p (poOf o).1 (poOf o).2.1 (poOf o).2.2 m).1 = 0 from he)] at hstep
      exact ⟨Q.length - (i + 1), by omega, i + 1, _, sg', hi1, by omega, rfl, hstep, H.ext, H.pv, H.own, H.ge, fun q hq => H.pin q (by rw [List.mem_singleton.1 hq]; exact List.mem_cons_self ..), fun q hq => (List.not_mem_nil hq).elim⟩
  · have hiq : i = Q.length := by omega
    refine ⟨H.ext, ?_⟩
    rw [show (Q.map poOf).take i = Q.map poOf by rw [hiq]; exact List.take_of_length_le (by rw [List.length_map]; exact Nat.le_refl _)] at hpl
    rw [hpl]
    exact ⟨rfl, b, sg, rfl, H.ge, H.pv, H.own⟩
theorem c_small2 (h : OpsV w0 s Q) (E : Ext (fun _ => False) w0 w) : C33 s w fun r w1 => (r = true → Q.length ≤ 60) ∧ Ext (fun _ => False) w w1 := by
  refine T33 _ _ _ ?_
  unfold S33
  have hm := maxLen_le
  have hmost := h.most
  rw [h.len]
  refine Br.dec (fun _ => ⟨by simp, Ext.refl _ _⟩) fun h60 => ?_
  have h60 : Q.length ≤ 60 := by omega
  refine ⟨fun n st w3 => ∃ i : Nat, st = (i : Int) ∧ i ≤ Q.length ∧ n = Q.length - i ∧ Ext (fun _ => False) w w3, Q.length, ⟨0, rfl, by omega, rfl, Ext.refl _ _⟩, ?_⟩
  rintro n st w3 ⟨i, rfl, hi, rfl, e3⟩
  unfold S33L2
  rw [h.len]
  refine Br.dec (fun e => ⟨by omega, by omega, ?_⟩) fun e => ⟨fun _ => h60, e3⟩
  obtain ⟨a, q, ha, ⟨hnl, d, hql, hov, hot⟩, hq, c⟩ := h.get' (i := i) (by omega)
  obtain ⟨c0, c1, c2⟩ := c w3 (E.tr e3)
  rw [ha, Int.toNat_natCast]
  refine Nn.of (Ld.mk c0 (Ld.mk c1 (Ld.mk c2 ?_)))
  refine (Hn.start w3).nw fun w4 K => ?_
  simp only [List.nil_append, add_lit, Nat.zero_add] at K ⊢
  iterate 3 (refine K.st 0 rfl (by simp) fun _ K => ?_; simp only [List.set_cons_zero, List.set_cons_succ] at K)
  refine K.ld 0 rfl rfl ?_
  have e4 := e3.tr K.ext
  refine ⟨fun n st w5 => ∃ k : Nat, st = (k : Int) ∧ k ≤ q.2.length ∧ n = q.2.length - k ∧ Ext (fun _ => False) w w5, q.2.length, ⟨0, rfl, by omega, rfl, e4⟩, ?_⟩
  rintro n st w5 ⟨k, rfl, hk, rfl, e5⟩
  unfold S33L1
  rw [hov.1]
  refine Br.dec (fun e => ⟨by omega, by omega, ?_⟩) fun e => ?_
  · have hk : q.2[k]? = some q.2[k] := List.getElem?_eq_getElem (by omega)
    obtain ⟨p, hp, k0, k1, k2, k3, k4, k5⟩ := (hov.keep (E.tr e5)).get hk
    rw [hp, Int.toNat_natCast]
    refine Nn.of (Ld.mk k0 (Ld.mk k1 (Ld.mk k2 (Ld.mk k3 (Ld.mk k4 (Ld.mk k5 ?_))))))
    refine (Hn.start w5).nw fun w6 K2 => ?_
    simp only [List.nil_append, add_lit, Nat.zero_add] at K2 ⊢
    iterate 6 (refine K2.st 0 rfl (by simp) fun _ K2 => ?_; simp only [List.set_cons_zero, List.set_cons_succ] at K2)
    iterate 6 refine K2.ld 0 rfl rfl ?_
    refine (c_size d q.2[k] _ (hot _ (List.getElem_mem (by omega))) (E.tr (e5.tr K2.ext))).mono ?_
    intro r w7 e7
    have e7 := (e5.tr K2.ext).tr e7
    refine Br.dec (fun _ => ⟨by simp, e7⟩) fun _ => ?_
    exact ⟨q.2.length - (k + 1), by omega, k + 1, by rw [i64_id (by omega)]; rfl, by omega, rfl, e7⟩
  · exact ⟨Q.length - (i + 1), by omega, i + 1, by rw [i64_id (by omega)]; rfl, by omega, rfl, e5⟩
/-- The image of a point, in its block. -/
def PB (v : World) (m : Mx) (s : Addr × Int) (p : Int × Int) : Prop := ∃ g q, s.1 = ⟨g, 0, none⟩ ∧ (q, s.2) = resP (applyP m p) ∧ Blk v g ([.int .i64 q.1, .int .i64 q.2] : List Value).toArray 43
theorem PB.keep {v v' : World} {s : Addr × Int} {p : Int × Int} (h : PB v m s p) (he : Ext (fun _ => False) v v') : PB v' m s p := by
  obtain ⟨g, q, h1, h2, h3⟩ := h
  exact ⟨g, q, h1, h2, he.blk h3 id⟩
theorem PB.yes {v : World} {s : Addr × Int} {p q : Int × Int} (h : PB v m s p) (hq : applyP m p = some q) : s.2 = 0 ∧ v.cell? s.1 = some (.int .i64 q.1) ∧ v.cell? (s.1.add 1) = some (.int .i64 q.2) := by
  obtain ⟨g, q', h1, h2, h3⟩ := h
  rw [hq] at h2
  have h2' : q' = q ∧ s.2 = 0 := Prod.mk.inj h2
  obtain ⟨rfl, h2'⟩ := h2'
  rw [h1, add_lit, h3.cell, h3.cell]
  exact ⟨h2', rfl, rfl⟩
theorem led_law {W : World} (hbox : BoxOk) (hs : AS W) (hpm : PM W) (m : Mx) (hQ : OpsV W s Q) : C8 s m W fun r w1 => r = true ∧ Ext (fun _ => False) W w1 := by
  have hmx := maxLen_le
  have hmost := hQ.most
  refine T8 _ m _ _ ?_
  unfold S8
  refine (Hn.start W).nw fun w2 K => ?_
  simp only [List.nil_append, add_lit, Nat.zero_add] at K ⊢
  refine (c_lives hbox (hs.keep K.ext) (hpm.keep K.ext)).mono ?_
  rintro r w3 ⟨rfl, e3⟩
  have K := K.keep e3
  refine Br.f rfl ?_
  refine (c_small2 hQ K.ext).mono ?_
  rintro r w5 ⟨h60, e5⟩
  have K := K.keep e5
  cases r with
  | false => exact Br.t rfl ⟨by trivial, K.ext⟩
  | true =>
  have h60 := h60 rfl
  refine Br.f rfl ?_
  refine ⟨fun n st v => ∃ i : Nat, st = (i : Int) ∧ i ≤ Q.length ∧ n = Q.length - i ∧ Hn W v [(W.heap.size, mrow m, 23)], Q.length, ⟨0, rfl, by omega, rfl, K⟩, ?_⟩
  clear K e3 e5
  rintro n st v ⟨i, rfl, hi, rfl, K⟩
  unfold S8L2
  rw [hQ.len]
  refine Br.dec (fun q => ⟨by omega, by omega, ?_⟩) fun _ => ?_
  · have ho : Q[i]? = some Q[i] := List.getElem?_eq_getElem (by omega)
    obtain ⟨hov, hql⟩ := (hQ.r.keep K.ext).ok Q[i] (List.getElem_mem (by omega))
    generalize Q[i] = o at ho hov hql
    obtain ⟨a, ha, c0, c1, c2⟩ := (hQ.r.keep K.ext).at' i o ho
    rw [ha, Int.toNat_natCast]
    refine Nn.of (Ld.mk c0 (Ld.mk c1 (Ld.mk c2 ?_)))
    refine (Hn.start v).nw fun w6 L => ?_
    simp only [List.nil_append, add_lit, Nat.zero_add] at L ⊢
    iterate 3 (refine L.st 0 rfl (by simp) fun _ L => ?_; simp only [List.set_cons_zero, List.set_cons_succ] at L)
    iterate 3 refine L.ld 0 rfl rfl ?_
    refine (r_check (hov.keep L.ext) hql).mono ?_
    rintro r w7 ⟨rfl, e7⟩
    have K := (K.keep L.ext).keep e7
    exact Br.ne (fun _ => ⟨by trivial, K.ext⟩) fun _ => ⟨Q.length - (i + 1), by omega, i + 1, by rw [i64_id (by omega)]; rfl, by omega, rfl, K⟩
  refine (r_one v).mono ?_
  rintro r w6 ⟨rfl, e6⟩
  have K := K.keep e6
  refine (c_played (m := one) (hs.keep K.ext) (hQ.r.keep K.ext) (by omega)).mono ?_
  rintro r46 ok1 w7 ⟨e7, h7⟩
  have K := K.keep e7
  iterate 6 refine K.ld 0 rfl rfl ?_
  refine (c_played (m := m) (hs.keep K.ext) (hQ.r.keep K.ext) (by omega)).mono ?_
  rintro r55 ok2 w8 ⟨e8, h8⟩
  have K := K.keep e8
  cases d1 : playP one (Q.map poOf) pa0 with
  | none =>
    rw [d1] at h7
    obtain rfl : ok1 = false := h7
    exact Br.t rfl ⟨by trivial, K.ext⟩
  | some p1 =>
  rw [d1] at h7
  obtain ⟨rfl, b1, sg1, rfl, _, v1, _⟩ := h7
  refine Br.f rfl ?_
  cases d2 : playP m (Q.map poOf) pa0 with
  | none =>
    rw [d2] at h8
    obtain rfl : ok2 = false := h8
    exact Br.t rfl ⟨by trivial, K.ext⟩
  | some p2 =>
  rw [d2] at h8
  obtain ⟨rfl, b2, sg2, rfl, _, v2, _⟩ := h8
  refine Br.f rfl ?_
  have hled : LedL m p1.L p2.L := (led_play (Q.map poOf) (p := pa0) (q := pa0) ⟨.nil, fun h => absurd rfl h⟩ d1 d2).1
  have hf1 := v1.few
  refine (c_segs (v1.keep e8)).mono ?_
  rintro r58 w9 ⟨h58, e9⟩
  have K := K.keep e9
  refine (c_segs (v2.keep e9)).mono ?_
  rintro r60 w10 ⟨h60', e10⟩
  have K := K.keep e10
  have u1 := (h58.sv).keep e10
  have u2 := h60'.sv
  have hlen := hled.len
  rw [u1.1, u2.1, hlen]
  refine Br.ne (fun h => absurd rfl h) fun _ => ?_
  refine ⟨fun n st v => ∃ i : Nat, st = (i : Int) ∧ i ≤ p1.L.length ∧ n = p1.L.length - i ∧ Ext (fun _ => False) w10 v, p1.L.length, ⟨0, rfl, by omega, rfl, Ext.refl _ _⟩, ?_⟩
  rintro n st v ⟨i, rfl, hi, rfl, ev⟩
  unfold S8L1
  rw [u1.1]
  refine Br.dec (fun q => ?_) fun _ => ⟨by trivial, K.ext.tr ev⟩
  have ho : p1.L[i]? = some p1.L[i] := List.getElem?_eq_getElem (by omega)
  have ht : p2.L[i]? = some p2.L[i] := List.getElem?_eq_getElem (by omega)
  generalize p1.L[i] = o at ho
  generalize p2.L[i] = t at ht
  obtain ⟨k1, k2, k3⟩ := hled.get i o t ho ht
  have hi1 : IntKind.i64.wrap ((i : Int) + 1) = ((i + 1 : Nat) : Int) := by rw [i64_id (by omega)]; rfl
  obtain ⟨a1, ha1, _⟩ := u1.get ho
  obtain ⟨a2, ha2, _⟩ := u2.get ht
  have g1 : ∀ {v' : World}, Ext (fun _ => False) w10 v' → ∀ (j : Nat) (x : Value), (sgrow o)[j]? = some x → v'.cell? ((a1.add (i * 7)).add j) = some x := fun e j x hx => by
    obtain ⟨a', ha', hc⟩ := (u1.keep e).get ho
    rw [ha1] at ha'
    cases ha'
    exact hc j x hx
  have g2 : ∀ {v' : World}, Ext (fun _ => False) w10 v' → ∀ (j : Nat) (x : Value), (sgrow t)[j]? = some x → v'.cell? ((a2.add (i * 7)).add j) = some x := fun e j x hx => by
    obtain ⟨a', ha', hc⟩ := (u2.keep e).get ht
    rw [ha2] at ha'
    cases ha'
    exact hc j x hx
  have g10 : ∀ {v' : World}, Ext (fun _ => False) w10 v' → v'.cell? (a1.add (i * 7)) = some (.int .i64 o.1) := fun e => by
    have := g1 e 0 _ rfl
    rwa [add_add', Nat.add_zero] at this
  have g20 : ∀ {v' : World}, Ext (fun _ => False) w10 v' → v'.cell? (a2.add (i * 7)) = some (.int .i64 t.1) := fun e => by
    have := g2 e 0 _ rfl
    rwa [add_add', Nat.add_zero] at this
  have nxt : ∀ {v' : World}, Ext (fun _ => False) w10 v' → ∃ n', n' < p1.L.length - i ∧ ∃ k : Nat, IntKind.i64.wrap ((i : Int) + 1) = (k : Int) ∧ k ≤ p1.L.length ∧ n' = p1.L.length - k ∧ Ext (fun _ => False) w10 v' := fun e =>
    ⟨p1.L.length - (i + 1), by omega, i + 1, hi1, by omega, rfl, e⟩
  have same2 : ∀ {x y z u : Int} {A B : Prop}, x = z → y = u → B → Br (!((x == z) && ((y == u) && true))) A B := fun h1 h2 k => by
    subst h1 h2
    exact Br.f (by simp) k
  have bi : 0 ≤ (i : Int) ∧ (i : Int) < ((p1.L.length : Nat) : Int) := ⟨by omega, by omega⟩
  have bi2 : 0 ≤ (i : Int) ∧ (i : Int) < ((p2.L.length : Nat) : Int) := ⟨by omega, by omega⟩
  have aa : ∀ (a : Addr) (x y z : Nat), ((a.add x).add y).add z = (a.add x).add (y + z) := fun a x y z => add_add' _ _ _
  have j1 : ∀ (s1 s2 s3 : Addr × Int) (v' : World), Ext (fun _ => False) w10 v' → PB v' m s1 (Sg.P o) → PB v' m s2 (Sg.Q o) → PB v' m s3 (Sg.R o) → S8J1 r58 r60 (i : Int) (fun s w => ∃ n', n' < p1.L.length - i ∧ ∃ k : Nat, s = (k : Int) ∧ k ≤ p1.L.length ∧ n' = p1.L.length - k ∧ Ext (fun _ => False) w10 w) s1 s2 (fun r w1 => r = true ∧ Ext (fun _ => False) W w1) s3 v' := by
    intro s1 s2 s3 v' e b1 b2 b3
    unfold S8J1
    have e := e.drew
    have b1 := b1.keep (Ext.refl _ v').drew
    have b2 := b2.keep (Ext.refl _ v').drew
    have b3 := b3.keep (Ext.refl _ v').drew
    generalize v'.drew = u at e b1 b2 b3 ⊢
    rw [ha1, ha2, Int.toNat_natCast, u1.1, u2.1]
    refine ⟨bi.1, bi.2, Nn.of (Ld.mk (g10 e) ⟨bi2.1, bi2.2, Nn.of (Ld.mk (g20 e) (Br.ne (fun h => absurd k1 h) fun _ => ⟨bi.1, bi.2, Nn.of (Ld.mk (g10 e) ?_)⟩))⟩)⟩
    have tail : 0 ≤ (i : Int) ∧ (i : Int) < ((p1.L.length : Nat) : Int) ∧ Nn (some a1) fun a148 => Ld u (a148.add (i * 7)) (Value.int .i64) fun (x149 : Int) =>
          Br (x149 == 3) (Br (s1.2 != 0) (false = true ∧ Ext (fun _ => False) W u) (Br (s2.2 != 0) (false = true ∧ Ext (fun _ => False) W u) (Ld u s1.1 (Value.int .i64) fun (x150 : Int) =>
                Ld u (s1.1.add 1) (Value.int .i64) fun (x151 : Int) =>
                0 ≤ (i : Int) ∧ (i : Int) < ((p2.L.length : Nat) : Int) ∧ Nn (some a2) fun a152 =>
                Ld u ((a152.add (i * 7)).add 1) (Value.int .i64) fun (x153 : Int) =>
                Ld u (((a152.add (i * 7)).add 1).add 1) (Value.int .i64) fun (x154 : Int) =>
                Br (!((x150 == x153) && ((x151 == x154) && true))) (false = true ∧ Ext (fun _ => False) W u) (Ld u s2.1 (Value.int .i64) fun (x155 : Int) =>
                  Ld u (s2.1.add 1) (Value.int .i64) fun (x156 : Int) =>
                  0 ≤ (i : Int) ∧ (i : Int) < ((p2.L.length : Nat) : Int) ∧ Nn (some a2) fun a157 =>
                  Ld u ((a157.add (i * 7)).add 3) (Value.int .i64) fun (x158 : Int) =>
                  Ld u (((a157.add (i * 7)).add 3).add 1) (Value.int .i64) fun (x159 : Int) =>
                  Br (!((x155 == x158) && ((x156 == x159) && true))) (false = true ∧ Ext (fun _ => False) W u) (∃ n', n' < p1.L.length - i ∧ ∃ k : Nat, IntKind.i64.wrap ((i : Int) + 1) = (k : Int) ∧ k ≤ p1.L.length ∧ n' = p1.L.length - k ∧ Ext (fun _ => False) w10 u))))) (∃ n', n' < p1.L.length - i ∧ ∃ k : Nat, IntKind.i64.wrap ((i : Int) + 1) = (k : Int) ∧ k ≤ p1.L.length ∧ n' = p1.L.length - k ∧ Ext (fun _ => False) w10 u) := by
      refine ⟨bi.1, bi.2, Nn.of (Ld.mk (g10 e) (Br.eq (fun h3 => ?_) fun _ => nxt e))⟩
      obtain ⟨q1, q2⟩ := k3 h3
      obtain ⟨x1, x2, x3⟩ := b1.yes q1
      obtain ⟨y1, y2, y3⟩ := b2.yes q2
      refine Br.ne (fun h => absurd x1 h) fun _ => Br.ne (fun h => absurd y1 h) fun _ => ?_
      refine Ld.mk x2 (Ld.mk x3 ⟨bi2.1, bi2.2, Nn.of (Ld.mk (g2 e 1 _ rfl) (Ld.mk (by rw [aa]; exact g2 e 2 _ rfl) (same2 rfl rfl ?_)))⟩)
      exact Ld.mk y2 (Ld.mk y3 ⟨bi2.1, bi2.2, Nn.of (Ld.mk (g2 e 3 _ rfl) (Ld.mk (by rw [aa]; exact g2 e 4 _ rfl) (same2 rfl rfl (nxt e))))⟩)
    refine Br.ne (fun h4 => ?_) fun _ => tail
    obtain ⟨z1, z2, z3⟩ := b3.yes (k2 h4)
    refine Br.ne (fun h => absurd z1 h) fun _ => ?_
    exact Ld.mk z2 (Ld.mk z3 ⟨bi2.1, bi2.2, Nn.of (Ld.mk (g2 e 5 _ rfl) (Ld.mk (by rw [aa]; exact g2 e 6 _ rfl) (same2 rfl rfl tail)))⟩)
  have KM : ∀ {v' : World}, Ext (fun _ => False) w10 v' → Blk v' W.heap.size (mrow m).toArray 23 := fun e => e.blk (K.get 0 rfl) id
  -- one image: called first, or made room for first
  have img : ∀ {v' : World} {X : (Addr × Int) → World → Prop} {pp : Int × Int}, Ext (fun _ => False) w10 v' → (∀ s v'', Ext (fun _ => False) v' v'' → PB v'' m s pp → X s v'') →
      (C45 m pp v' fun r183 r184 vw185 => Nw vw185 (.cells #[.int .i64 0, .int .i64 0] 43) fun vw186 => Sh.St vw186 (⟨vw185.heap.size, 0, none⟩ : Addr) (.int .i64 (r183.1)) fun vw187 =>
        Sh.St vw187 ((⟨vw185.heap.size, 0, none⟩ : Addr).add 1) (.int .i64 (r183.2)) fun vw188 => X ((⟨vw185.heap.size, 0, none⟩ : Addr), r184) vw188) ∧
      (Nw v' (.cells #[.int .i64 0, .int .i64 0] 43) fun vw189 => Ext (fun _ => False) w10 vw189 ∧ C45 m pp vw189 fun r190 r191 vw192 =>
        Sh.St vw192 (⟨v'.heap.size, 0, none⟩ : Addr) (.int .i64 (r190.1)) fun vw193 => Sh.St vw193 ((⟨v'.heap.size, 0, none⟩ : Addr).add 1) (.int .i64 (r190.2)) fun vw194 => X ((⟨v'.heap.size, 0, none⟩ : Addr), r191) vw194) := by
    intro v' X pp e k
    refine ⟨(r_apply m pp v').mono ?_, ?_⟩
    · rintro r e2 w11 ⟨hr, e11⟩
      refine (Hn.start w11).nw fun w12 L => ?_
      simp only [List.nil_append, add_lit, Nat.zero_add] at L ⊢
      iterate 2 (refine L.st 0 rfl (by simp) fun _ L => ?_; simp only [List.set_cons_zero, List.set_cons_succ] at L)
      exact k _ _ (e11.tr L.ext) ⟨_, r, rfl, hr, L.get 0 rfl⟩
    · refine (Hn.start v').nw fun w12 L => ⟨e.tr L.ext, (r_apply m pp w12).mono ?_⟩
      rintro r e2 w11 ⟨hr, e11⟩
      have L := L.keep e11
      simp only [List.nil_append, add_lit, Nat.zero_add] at L ⊢
      iterate 2 (refine L.st 0 rfl (by simp) fun _ L => ?_; simp only [List.set_cons_zero, List.set_cons_succ] at L)
      exact k _ _ L.ext ⟨_, r, rfl, hr, L.get 0 rfl⟩
  have ev := ev.drew
  refine Join.intro ⟨fun v' => Ext (fun _ => False) w10 v', ev, ?_⟩
  simp only [add_lit, Nat.zero_add]
  iterate 6 refine LdS.of (fun w' h' => KM h') rfl ?_
  rw [ha1, Int.toNat_natCast]
  refine ⟨bi.1, bi.2, Nn.of (ldS_mk (fun w' h' => g1 h' 1 _ rfl) (ldS_mk (fun w' h' => by rw [aa]; exact g1 h' 2 _ rfl) ?_))⟩
  refine img (pp := Sg.P o) ev fun s1 v1 ev1 b1 => ?_
  unfold S8J3
  have ev1 := (ev.tr ev1).drew
  have b1 := b1.keep (Ext.refl _ v1).drew
  rw [u1.1]
  refine Join.intro ⟨fun v' => Ext (fun _ => False) w10 v', ev1, ?_⟩
  simp only [add_lit, Nat.zero_add]
  iterate 6 refine LdS.of (fun w' h' => KM h') rfl ?_
  rw [ha1, Int.toNat_natCast]
  refine ⟨bi.1, bi.2, Nn.of (ldS_mk (fun w' h' => g1 h' 3 _ rfl) (ldS_mk (fun w' h' => by rw [aa]; exact g1 h' 4 _ rfl) ?_))⟩
  refine img (pp := Sg.Q o) ev1 fun s2 v2 ev2 b2 => ?_
  have b1 := (b1.keep ev2).keep (Ext.refl _ v2).drew
  have b2 := b2.keep (Ext.refl _ v2).drew
  unfold S8J2
  have ev2 := (ev1.tr ev2).drew
  rw [u1.1]
  refine Join.intro ⟨fun v' => Ext (fun _ => False) w10 v', ev2, ?_⟩
  simp only [add_lit, Nat.zero_add]
  iterate 6 refine LdS.of (fun w' h' => KM h') rfl ?_
  rw [ha1, Int.toNat_natCast]
  refine ⟨bi.1, bi.2, Nn.of (ldS_mk (fun w' h' => g1 h' 5 _ rfl) (ldS_mk (fun w' h' => by rw [aa]; exact g1 h' 6 _ rfl) ?_))⟩
  refine img (pp := Sg.R o) ev2 fun s3 v3 ev3 b3 => ?_
  exact j1 s1 s2 s3 v3 (ev2.tr ev3) (b1.keep ev3) (b2.keep ev3) b3
end
end Pat
end Go.Proofs.YtjbeembbnkmpeaaDoor

/- append to a slice that has no room, or to an empty one. Conditions: sizes. -/
namespace Go.Proofs.YtjbeembbnkmpeaaDoor
namespace Sh
set_option linter.unusedVariables false
set_option linter.unusedSimpArgs false
section
variable {P : Program} {t e : TypeId} {k B : Nat} {z : Value} {w : World} {s : Slc} {ty : TypeId} {xs ys news : List Value} {i : TypeInfo} {x : Value} {m len : Nat} {a : Addr}
/-- append to a slice without room. -/
theorem append_fullB (ht : P.underlying t = some (.slice e)) (hi : P.info? e = some i) (hz : i.zero = some z) (hzs : z.cells.size = i.size) (hm : 0 < m)
    (hlen : Builtin.lenOf x = pure m) (hcells : ∀ w' : World, w'.heap = w.heap → (Builtin.firstCells i.size m x).run P w' = .ok news.toArray w') (hl : news.length = m * i.size)
    (hx1 : xs.length = len * i.size) (holds : ∀ j v, xs[j]? = some v → w.cell? (a.add j) = some v) (hb : (len + m) * i.bytes ≤ 140737488355328) (h63 : len + m ≤ 9223372036854775807) :
    ∃ s' w', RunV P (Builtin.append_ #[t, t] ty #[Slc.v ⟨some a, len, len⟩, x]) w (Slc.v s') w' ∧ Row w' s' e i.size (xs ++ news) ∧ s'.len = len + m ∧ Ext (fun _ => False) w w' ∧ ∀ j, s'.own j → w.heap.size ≤ j := by
  have hlenr : (xs ++ news).length = (len + m) * i.size := by rw [List.length_append, hx1, hl, Nat.add_mul]
  have hd : w.drew.heap = w.heap := rfl
  refine ⟨⟨some ⟨w.heap.size, 0, none⟩, len + m, grownCap w (len + m) len e⟩, w.drew.alloc (.cells (xs.toArray ++ news.toArray ++ Builtin.zeroCells z.cells (grownCap w (len + m) len e - (len + m))) e), ?_, ⟨hlenr, .inr ⟨_, _, rfl, Blk.new w.drew _ e, grownCap_ge w (len + m) len e, ?_, ?_⟩⟩, rfl, ((Ext.refl _ w).drew).alloc _, fun j hj => ?_⟩
  · have hc := hcells w.drew hd
    have hf := growslice_fits (need := len + m) (old := len) (by omega) hb
    have hf' : ¬ (281474976710656 < Builtin.nextslicecap (len + m) len * i.bytes) := by omega
    have h6 : ¬ (9223372036854775807 < ((len : Int) + (m : Int))) := by omega
    have hroom : ¬ (len + m ≤ len) := by omega
    have hm0 : m ≠ 0 := by omega
    have hfo := run_firstCells_some (P := P) w.drew i.size len a len len xs hx1 (fun j v hj => by have := holds j v hj; simpa using this)
    simp [RunV, Slc.v, Builtin.append_, run_underlying ht, sizeOf, typeInfo, zeroValue, hi, hz, hlen, hroom, hm0, h6, hf', Question.forced, hfo, hc, newRow, grownCap] <;>
      (congr 2; apply Array.ext'; simp [List.append_assoc])
  · have hge := grownCap_ge w (len + m) len e
    simp only [Array.size_append, List.size_toArray, size_zeroCells, hzs, hx1, hl, ← Nat.add_mul]
    congr 1
    omega
  · simp only [Array.toList_append]
    rw [← hlenr]
    exact List.take_left
  · obtain ⟨a', ha, rfl⟩ := hj
    cases ha
    exact Nat.le_refl _
/-- append(empty, l...): nothing old is written. -/
theorem El.app0 {s2 : Slc} (h : El P t e k B z) (hk : 0 < k) (own : Row w s e k []) (hc : s.cap = 0) (h2 : VRow w s2 k ys) (h1 : ∀ v ∈ ys, v.oneCell' = true) (hb : s2.len * B ≤ 140737488355328) (h63 : s2.len ≤ 9223372036854775807) :
    ∃ s' w', RunV P (Builtin.append_ #[t, t] ty #[Slc.v s, Slc.v s2]) w (Slc.v s') w' ∧ Row w' s' e k ys ∧ s'.len = s2.len ∧ Ext (fun _ => False) w w' ∧ ∀ j, s'.own j → s.own j ∨ w.heap.size ≤ j := by
  have hl0 : s.len = 0 := by
    have := own.1
    rcases Nat.mul_eq_zero.1 this.symm with h0 | h0
    · exact h0
    · omega
  obtain ⟨p, len, cap⟩ := s
  simp only at hc hl0
  subst hc hl0
  cases p with
  | none =>
    obtain ⟨s', w', r1, r2, r3, r4, r5⟩ := h.app (ty := ty) (xs := []) own h2 h1 (by simpa using hb) (by simpa using h63)
    exact ⟨s', w', r1, by simpa using r2, by simpa using r3, r4.mono (fun j _ hj => by obtain ⟨a, ha, _⟩ := hj; cases ha), r5⟩
  | some a =>
    obtain ⟨i, hi, rfl, rfl, hz⟩ := h.info
    have hcells : ∀ w' : World, w'.heap = w.heap → (Builtin.firstCells i.size s2.len (Slc.v s2)).run P w' = .ok ys.toArray w' := fun w' hw' => by
      obtain ⟨p, len, cap⟩ := s2
      cases p with
      | none =>
        have hy : ys = [] := by
          cases ys with
          | nil => rfl
          | cons y r =>
            obtain ⟨a, ha, _⟩ := h2.2 0 y rfl
            cases ha
        subst hy
        have hl := h2.1
        simp only [List.length_nil] at hl
        exact run_firstCells_none (P := P) (w := w') _ _ _ _
      | some a =>
        refine run_firstCells_some w' i.size len a len cap ys h2.1 fun j v hj => ?_
        obtain ⟨a', ha, hc⟩ := h2.2 j v hj
        cases ha
        unfold World.cell? at hc ⊢
        rw [hw']
        exact hc
    by_cases hm : s2.len = 0
    · have hy : ys = [] := List.eq_nil_of_length_eq_zero (by have := h2.1; rw [hm] at this; simpa using this)
      subst hy
      refine ⟨⟨some a, 0, 0⟩, w, ?_, own, hm.symm, Ext.refl _ _, fun j hj => .inl hj⟩
      have hc := hcells w rfl
      have hlen : Builtin.lenOf (Slc.v s2) = pure 0 := by rw [← hm]; rfl
      rw [hm] at hc
      simp [RunV, Builtin.append_, run_underlying h.und, sizeOf, typeInfo, hi, hlen, hc, Slc.v] at *
      simp [RunV, Builtin.append_, run_underlying h.und, sizeOf, typeInfo, hi, hlen, hc, Slc.v, storeCells]
    · obtain ⟨s', w', r1, r2, r3, r4, r5⟩ := append_fullB (ty := ty) (a := a) (len := 0) (xs := []) (x := Slc.v s2) (m := s2.len) h.und hi hz h.cells (by omega) rfl hcells h2.1 (by simp) (fun j v hj => by cases hj) (by simpa using hb) (by simpa using h63)
      exact ⟨s', w', r1, by simpa using r2, by simpa using r3, r4, fun j hj => .inr (r5 j hj)⟩
end
end Sh
end Go.Proofs.YtjbeembbnkmpeaaDoor

/- Paths: PathClosed. Conditions: the tables are laid; Box. -/
namespace Go.Proofs.YtjbeembbnkmpeaaDoor
namespace Pat
open Sh Mat Fix Opr
set_option linter.unusedVariables false
set_option linter.unusedSimpArgs false
set_option maxRecDepth 8000
set_option maxHeartbeats 8000000
theorem elOp : El Tryd.prog 84 63 3 56 (.agg #[.string ⟨#[]⟩, Slc.v nilS, .string ⟨#[]⟩]) := ⟨by kernel_rfl, by kernel_rfl, by kernel_rfl, by kernel_rfl, rfl⟩
abbrev opsL (Q : List OpA) : List Value := Q.flatMap fun q => oprow q.1
theorem opsL_len (Q : List OpA) : (opsL Q).length = Q.length * 3 := by
  induction Q with
  | nil => rfl
  | cons q Q ih => rw [opsL, List.flatMap_cons, List.length_append, ih, List.length_cons]; simp [oprow]; omega
theorem opsL_get {Q : List OpA} {i j : Nat} {q : OpA} (hi : Q[i]? = some q) (hj : j < 3) : (opsL Q)[i * 3 + j]? = (oprow q.1)[j]? := by
  induction Q generalizing i with
  | nil => cases hi
  | cons o Q ih =>
    rw [opsL, List.flatMap_cons]
    cases i with
    | zero =>
      cases hi
      rw [Nat.zero_mul, Nat.zero_add, List.getElem?_append_left (by simpa [oprow] using hj)]
    | succ i =>
      rw [List.getElem?_append_right (by simp [oprow]; omega)]
      have : (i + 1) * 3 + j - (oprow o.1).length = i * 3 + j := by simp [oprow]; omega
      rw [this]
      exact ih (by simpa using hi)
theorem op_one (o : OpT) : ∀ v ∈ oprow o, v.oneCell' = true := by
  intro v hv
  simp only [oprow, List.mem_cons, List.not_mem_nil, or_false] at hv
  rcases hv with rfl | rfl | rfl <;> rfl
theorem ops_one (Q : List OpA) : ∀ v ∈ opsL Q, v.oneCell' = true := fun v hv => by
  obtain ⟨q, _, h⟩ := List.mem_flatMap.1 hv
  exact op_one q.1 v h
theorem OpsR.view {w : World} {s : Slc} {Q : List OpA} (h : OpsR w s Q) : VRow w s 3 (opsL Q) := by
  refine ⟨by rw [opsL_len, h.len], fun j v hj => ?_⟩
  have hjl : j < Q.length * 3 := by
    rw [← opsL_len]
    exact (List.getElem?_eq_some_iff.1 hj).1
  have hi : j / 3 < Q.length := by omega
  have hjj : j = j / 3 * 3 + j % 3 := by omega
  have hQ : Q[j / 3]? = some Q[j / 3] := List.getElem?_eq_getElem hi
  obtain ⟨a, ha, c0, c1, c2⟩ := h.at' _ _ hQ
  refine ⟨a, ha, ?_⟩
  rw [hjj, opsL_get hQ (by omega)] at hj
  rw [hjj]
  have hm : j % 3 = 0 ∨ j % 3 = 1 ∨ j % 3 = 2 := by omega
  rcases hm with hm | hm | hm <;> rw [hm] at hj ⊢ <;> cases hj
  · exact c0
  · rw [add_add'] at c1
    exact c1
  · rw [add_add'] at c2
    exact c2
theorem OpsR.row {w : World} {s : Slc} {Q : List OpA} {t : TypeId} (h : Row w s t 3 (opsL Q)) (ok : ∀ q ∈ Q, OV w q.1.2.1 q.2 ∧ q.2.length ≤ 9223372036854775807) : OpsR w s Q := by
  refine ⟨by have := h.1; rw [opsL_len] at this; omega, fun i q hi => ?_, ok⟩
  have g : ∀ j v, j < 3 → (oprow q.1)[j]? = some v → ∃ g, s.p = some ⟨g, 0, none⟩ ∧ w.cell? ⟨g, i * 3 + j, none⟩ = some v := fun j v hj hv => h.cell (by rw [opsL_get hi hj]; exact hv)
  obtain ⟨a, ha, c0⟩ := g 0 _ (by omega) rfl
  obtain ⟨a1, ha1, c1⟩ := g 1 _ (by omega) rfl
  obtain ⟨a2, ha2, c2⟩ := g 2 _ (by omega) rfl
  rw [ha] at ha1 ha2
  cases ha1; cases ha2
  refine ⟨_, ha, ?_, ?_, ?_⟩
  · rw [add_lit, Nat.zero_add]; exact c0
  · rw [add_lit, add_lit, Nat.zero_add]; exact c1
  · rw [add_lit, add_lit, Nat.zero_add]; exact c2
theorem Row.ty {w : World} {s : Slc} {t : TypeId} {k : Nat} {xs : List Value} (h : Row w s t k xs) {j : Nat} (hj : s.own j) : ∃ cs, Blk w j cs t := by
  obtain ⟨a, ha, rfl⟩ := hj
  rcases h.2 with rfl | ⟨g, cur, hp, hb, _⟩
  · cases ha
  · rw [hp] at ha; cases ha; exact ⟨_, hb⟩
theorem Blk.ty_eq {w : World} {b : Nat} {cs cs' : Array Value} {t t' : TypeId} (h : Blk w b cs t) (k : Blk w b cs' t') : t = t' := by
  unfold Blk at h k
  rw [h] at k
  cases k
  rfl
section
variable {w0 w w' w1 : World} {s sg ns : Slc} {Q : List OpA} {b : Nat} {p : Pa} {m : Mx} {l : List Int} {a : ByteArray}
attribute [local irreducible] Ld Sh.St Nw Nn LdS LdT LdST StT
/-- The operands of an operator that has been made. -/
def OAr (v : World) (s : Slc) (l : List Int) : Prop := OV v s (l.map iO) ∧ ∀ j, s.own j → ∃ cs, Blk v j cs 81
theorem OAr.keep {v v' : World} (h : OAr v s l) (he : Ext (fun _ => False) v v') : OAr v' s l := ⟨h.1.keep he, fun j hj => by obtain ⟨cs, hc⟩ := h.2 j hj; exact ⟨cs, he.blk hc id⟩⟩
theorem OAr.keepR {v v' : World} {x : Slc} {xs : List Value} (h : OAr v s l) (hr : Row v x 63 3 xs) (he : Ext x.own v v') : OAr v' s l := by
  have no : ∀ j, s.own j → ¬ x.own j := fun j hj hx => by
    obtain ⟨cs, hc⟩ := h.2 j hj
    obtain ⟨cs', hc'⟩ := Row.ty hr hx
    exact absurd (Blk.ty_eq hc hc') (by decide)
  exact ⟨⟨h.1.1, h.1.2.keepF he no⟩, fun j hj => by obtain ⟨cs, hc⟩ := h.2 j hj; exact ⟨cs, he.blk hc (no j hj)⟩⟩
theorem c_opR (h : IV w ns l) (hl : l.length ≤ 1000) : C42 a ns w fun r w1 => ∃ s, r = (a, s, eB) ∧ OAr w1 s l ∧ Ext (fun _ => False) w w1 := by
  refine T42 _ _ _ _ ?_
  unfold S42
  refine (Hn.start w).nw fun w2 H => ?_
  refine H.nw fun w3 H => ?_
  simp only [List.cons_append, List.nil_append, add_lit, Nat.zero_add] at H ⊢
  iterate 2 (refine H.st 1 rfl (by simp) fun _ H => ?_; simp only [List.set_cons_zero, List.set_cons_succ] at H)
  refine H.st 1 rfl (by simp) fun w4 H => ?_
  simp only [List.set_cons_zero, List.set_cons_succ] at H
  have hlen := h.1
  have l0 := H.lt 0 rfl
  have l1 := H.lt 1 rfl
  have g0 := H.ge 0 rfl
  have g1 := H.ge 1 rfl
  have l01 : w.heap.size ≠ w2.heap.size := by
    have := H.h.nodup
    simp [arr] at this
    exact this
  refine ⟨fun n st v => ∃ (i : Nat) (s : Slc), st = (i : Int) ∧ i ≤ l.length ∧ n = l.length - i ∧ Blk v w2.heap.size [.string a, Slc.v s, .string eB].toArray 63 ∧ Row v s 81 6 (((l.take i).map iO).flatMap obrow) ∧ (∀ j, s.own j → w4.heap.size ≤ j) ∧ Ext (fun j => j = w2.heap.size) w4 v, l.length, ⟨0, nilS, rfl, by omega, rfl, H.get 1 rfl, Row.nil _ _ _, fun j hj => (by obtain ⟨a', ha, _⟩ := hj; cases ha), Ext.refl _ _⟩, ?_⟩
  rintro n st v ⟨i, s, rfl, hi, rfl, hb, hrow, hown, ev⟩
  unfold S42L1
  simp only [add_lit, Nat.zero_add]
  have E : Ext (fun _ => False) w v := Ext.new H.ext ev fun j hj => by omega
  have hsl : s.len = i := by
    have := hrow.1
    rw [obs_len, List.length_map, List.length_take] at this
    omega
  have sv := ev.size
  rw [hlen]
  refine Br.dec (fun q => ?_) fun q => ?_
  · rw [← hlen]
    refine ld_iv (i := i) (h.keep E) (by omega) rfl ?_
    refine Ld.of hb rfl ?_
    refine (Hn.start v).nw (cs := obrow (iO (l.getD i 0))) fun v2 H2 => ?_
    have e2 := H2.ext
    obtain ⟨s', v3, r1, r2, r3, e3, r5⟩ := elOb.app1 (ty := 60) (hrow.keep e2 fun _ _ e => e) (H2.get 0 rfl) rfl (ob_one _) (by omega) (by omega)
    refine ⟨s', v3, r1, ?_⟩
    have hown' : ∀ j, s'.own j → w4.heap.size ≤ j := fun j hj => (r5 j hj).elim (hown j) fun h => by have := e2.size; omega
    refine stB (e3.blk (e2.blk hb id) fun h => by have := hown _ h; omega) (by simp) fun v4 b4 e4 => ?_
    refine ⟨l.length - (i + 1), by omega, i + 1, s', by rw [i64_id (by omega)]; rfl, by omega, by omega, b4, ?_, hown', ?_⟩
    · have ht : l.take (i + 1) = l.take i ++ [l.getD i 0] := by
        have : l[i]? = some l[i] := List.getElem?_eq_getElem (by omega)
        rw [List.take_add_one, this, List.getD_eq_getElem?_getD, this]
        rfl
      rw [ht, List.map_append, List.flatMap_append]
      exact (show Row v3 s' 81 6 (((l.take i).map iO).flatMap obrow ++ ([iO (l.getD i 0)].flatMap obrow)) by simpa using r2).keep e4 fun j hj e => by have e : j = w2.heap.size := e; have := hown' j hj; omega
    · exact ((ev.trans e2 (fun _ h => h) fun _ _ e => e.elim).trans e3 (fun _ h => h) fun j hj h => by have := hown j h; omega).tr e4
  · have hil : i = l.length := by omega
    subst hil
    rw [List.take_length] at hrow
    iterate 3 refine Ld.of hb rfl ?_
    have z := ev.blk (H.get 0 rfl) l01
    refine stB z (by simp) fun v2 z2 e2 => stB z2 (by simp) fun v3 z3 e3 => stB z3 (by simp) fun v4 z4 e4 => ?_
    iterate 3 refine Ld.of z4 rfl ?_
    have e24 := (e2.tr e3).tr e4
    have hr := hrow.keep e24 fun j hj e => by have e : j = w.heap.size := e; have := hown j hj; omega
    refine ⟨s, rfl, ⟨⟨by rw [hsl, List.length_map], hr.view⟩, fun j hj => Row.ty hr hj⟩, Ext.new E e24 fun j hj => by omega⟩
/-- Two paths, one older than the other. -/
structure Two (v : World) (n bA : Nat) (pA : Pa) (sA : Slc) (bB : Nat) (pB : Pa) (sB : Slc) : Prop where
  pa : PV v bA pA sA
  pb : PV v bB pB sB
  la : bA < n
  lo : ∀ j, sA.own j → j < n
  gb : n ≤ bB
  go : ∀ j, sB.own j → n ≤ j
theorem Two.keep {v v' : World} {n bA bB : Nat} {pA pB : Pa} {sA sB : Slc} (h : Two v n bA pA sA bB pB sB) (he : Ext (fun _ => False) v v') : Two v' n bA pA sA bB pB sB := ⟨h.pa.keep he, h.pb.keep he, h.la, h.lo, h.gb, h.go⟩
theorem Two.n_le {v : World} {n bA bB : Nat} {pA pB : Pa} {sA sB : Slc} (h : Two v n bA pA sA bB pB sB) : n < v.heap.size := by
  have := h.pb.blk.lt
  have := h.gb
  omega
end
end Pat
end Go.Proofs.YtjbeembbnkmpeaaDoor

/- Paths: the reference's parts: names, numbers, points, the current point, segments. Conditions: sizes. -/
namespace Go.Proofs.YtjbeembbnkmpeaaDoor
namespace Pat
open Sh Mat Fix Opr
set_option linter.unusedVariables false
set_option linter.unusedSimpArgs false
set_option maxRecDepth 8000
set_option maxHeartbeats 8000000
/-! ### Rows of points -/
abbrev Pnt : Type := Int × Int
def ptrow (p : Pnt) : List Value := [.int .i64 p.1, .int .i64 p.2]
abbrev pts (L : List Pnt) : List Value := L.flatMap ptrow
theorem elPt : El Tryd.prog 164 43 2 16 (.agg #[.int .i64 0, .int .i64 0]) := ⟨by kernel_rfl, by kernel_rfl, by kernel_rfl, by kernel_rfl, rfl⟩
theorem pt_one (p : Pnt) : ∀ v ∈ ptrow p, v.oneCell' = true := by
  intro v hv
  simp only [ptrow, List.mem_cons, List.not_mem_nil, or_false] at hv
  rcases hv with rfl | rfl <;> rfl
theorem pts_one (L : List Pnt) : ∀ v ∈ pts L, v.oneCell' = true := fun v hv => by
  obtain ⟨q, _, h⟩ := List.mem_flatMap.1 hv
  exact pt_one q v h
theorem pts_len (L : List Pnt) : (pts L).length = L.length * 2 := by
  induction L with
  | nil => rfl
  | cons q Q ih => rw [pts, List.flatMap_cons, List.length_append, ih, List.length_cons]; simp [ptrow]; omega
theorem pts_get {L : List Pnt} {i j : Nat} {p : Pnt} (hi : L[i]? = some p) (hj : j < 2) : (pts L)[i * 2 + j]? = (ptrow p)[j]? := by
  induction L generalizing i with
  | nil => cases hi
  | cons o Q ih =>
    rw [pts, List.flatMap_cons]
    cases i with
    | zero =>
      cases hi
      rw [Nat.zero_mul, Nat.zero_add, List.getElem?_append_left (by simpa [ptrow] using hj)]
    | succ i =>
      rw [List.getElem?_append_right (by simp [ptrow]; omega)]
      have : (i + 1) * 2 + j - (ptrow o).length = i * 2 + j := by simp [ptrow]; omega
      rw [this]
      exact ih (by simpa using hi)
/-- The points of a slice. -/
def QV (w : World) (s : Slc) (L : List Pnt) : Prop := s.len = L.length ∧ VRow w s 2 (pts L)
/-- A row of points of its own. -/
def QO (w0 w : World) (s : Slc) (L : List Pnt) : Prop := Row w s 43 2 (pts L) ∧ ∀ j, s.own j → w0.heap.size ≤ j
section
variable {w0 w w' w1 : World} {s sl ns : Slc} {L : List Pnt} {l : List Int} {M : List Sg} {m : Mx} {a d : ByteArray}
theorem QV.keep (h : QV w s L) (he : Ext (fun _ => False) w w') : QV w' s L := ⟨h.1, h.2.keep he⟩
theorem QV.row {t : TypeId} (h : Row w s t 2 (pts L)) : QV w s L := by
  refine ⟨?_, h.view⟩
  have := h.1
  rw [pts_len] at this
  omega
theorem QO.v (h : QO w0 w s L) : QV w s L := QV.row h.1
theorem QO.nil (w0 w : World) : QO w0 w nilS [] := ⟨Row.nil _ _ _, fun j hj => by obtain ⟨a, ha, _⟩ := hj; cases ha⟩
theorem QO.keep (h : QO w0 w s L) (he : Ext (fun _ => False) w w') : QO w0 w' s L := ⟨h.1.keep he fun _ _ e => e, h.2⟩
theorem QV.get (h : QV w s L) {i : Nat} {p : Pnt} (hi : L[i]? = some p) : ∃ a, s.p = some a ∧ w.cell? (a.add (i * 2)) = some (.int .i64 p.1) ∧ w.cell? ((a.add (i * 2)).add 1) = some (.int .i64 p.2) := by
  have g : ∀ j v, j < 2 → (ptrow p)[j]? = some v → ∃ a, s.p = some a ∧ w.cell? (a.add (i * 2 + j)) = some v := fun j v hj hv => h.2.2 _ v (by rw [pts_get hi hj]; exact hv)
  obtain ⟨a, ha, c0⟩ := g 0 _ (by omega) rfl
  obtain ⟨a1, ha1, c1⟩ := g 1 _ (by omega) rfl
  rw [ha] at ha1
  cases ha1
  exact ⟨a, ha, c0, by rw [add_add']; exact c1⟩
attribute [local irreducible] Ld Sh.St Nw Nn LdS LdT LdST StT
theorem QO.snoc {r : Slc} {p : Pnt} {ty : TypeId} {K : Slc → World → Prop} (h : QO w0 w r L) (he : Ext (fun _ => False) w0 w) (hl : L.length ≤ 1000000)
    (k : ∀ r' w', QO w0 w' r' (L ++ [p]) → Ext (fun _ => False) w0 w' → Ext r.own w w' → K r' w') :
    Nw w (.cells #[.int .i64 p.1, .int .i64 p.2] 43) fun w2 => Rn Tryd.prog (Builtin.append_ #[164, 164] ty #[Slc.v r, Slc.v (⟨some ⟨w.heap.size, 0, none⟩, 1, 1⟩ : Slc)]) w2 Slc.v fun (r' : Slc) w3 => K r' w3 := by
  refine (Hn.start w).nw (cs := ptrow p) fun w2 H => ?_
  have e2 := H.ext
  have hlen := h.v.1
  obtain ⟨s', w', r1, r2, r3, r4, r5⟩ := elPt.app1 (ty := ty) (h.1.keep e2 fun _ _ e => e) (H.get 0 rfl) rfl (pt_one p) (by omega) (by omega)
  have E2 := he.tr e2
  refine ⟨s', w', r1, k s' w' ⟨by rw [pts, List.flatMap_append]; simpa using r2, fun j hj => ?_⟩ (Ext.new E2 r4 h.2) (e2.trans r4 (fun _ e => e.elim) fun _ _ h => h)⟩
  have := E2.size
  rcases r5 j hj with hh | hh
  · exact h.2 j hh
  · omega
/-! ### Names -/
theorem r_builds (a : ByteArray) (w : World) : C98 a w fun r w1 => r = decide (bl a ∈ nine) ∧ w1 = w := by
  refine T98 _ _ _ ?_
  unfold S98
  have yes : ∀ {l : By}, bl a = l → l ∈ nine → (true = decide (bl a ∈ nine) ∧ w = w) := fun h1 h2 => ⟨(decide_eq_true (by rw [h1]; exact h2)).symm, rfl⟩
  refine BrB (fun q => BrB (fun _ => yes q (by decide)) fun nq => absurd q nq) fun n1 => ?_
  refine BrB (fun q => BrB (fun _ => yes q (by decide)) fun nq => absurd q nq) fun n2 => ?_
  refine BrB (fun q => BrB (fun _ => yes q (by decide)) fun nq => absurd q nq) fun n3 => ?_
  refine BrB (fun q => BrB (fun _ => yes q (by decide)) fun nq => absurd q nq) fun n4 => ?_
  refine BrB (fun q => BrB (fun _ => yes q (by decide)) fun nq => absurd q nq) fun n5 => ?_
  refine BrB (fun q => BrB (fun _ => yes q (by decide)) fun nq => absurd q nq) fun n6 => ?_
  refine BrB (fun q => BrB (fun _ => yes q (by decide)) fun nq => absurd q nq) fun n7 => ?_
  refine BrB (fun q => BrB (fun _ => yes q (by decide)) fun nq => absurd q nq) fun n8 => ?_
  refine BrB (fun q => yes q (by decide)) fun n9 => ⟨?_, rfl⟩
  symm
  rw [decide_eq_false_iff_not]
  unfold nine
  simp only [List.mem_cons, List.not_mem_nil, or_false, not_or]
  exact ⟨n1, n2, n3, n4, n5, n6, n7, n8, n9⟩
/-! ### Numbers -/
theorem r_nums {L : List Ob} (h : OV w s L) (hl : L.length ≤ 100000) (hk : ∀ o ∈ L, o.1 = 2 ∨ o.1 = 3) : C99 (a, s, d) w fun r e w1 => Ext (fun _ => False) w w1 ∧ match nmO L with
    | none => e = 2
    | some l => e = 0 ∧ IO w w1 r l := by
  refine T99 (a, s, d) _ _ ?_
  unfold S99
  refine (Hn.start w).nw fun w2 H => ?_
  simp only [List.nil_append, add_lit, Nat.zero_add] at H ⊢
  have sw2 := H.size
  have hlen := h.1
  refine ⟨fun n st w3 => ∃ (i : Nat) (l : List Int), st.2 = (i : Int) ∧ i ≤ L.length ∧ n = L.length - i ∧ l.length ≤ i ∧ IO w2 w3 st.1 l ∧ Ext (fun _ => False) w2 w3 ∧ nmO L = nmAt L i l, L.length, ⟨0, [], rfl, by omega, rfl, Nat.le_refl _, IO.nil _ _, Ext.refl _ _, (nmAt_0 L).symm⟩, ?_⟩
  rintro n ⟨r, st⟩ w3 ⟨i, l, hst, hi, rfl, hll, ho, e3, hn⟩
  simp only at hst ho
  subst hst
  have H := H.keep e3
  unfold S99L1
  dsimp only
  simp only [add_lit, Nat.zero_add]
  refine H.ld 0 rfl rfl ?_
  show Br (decide ((i : Int) < ((s.len : Nat) : Int))) _ _
  rw [hlen]
  refine Br.dec (fun q => H.ld 0 rfl rfl ?_) fun q => ?_
  · have hlt : i < L.length := by omega
    have hLi : L[i]? = some L[i] := List.getElem?_eq_getElem hlt
    have hkk := hk L[i] (List.getElem_mem hlt)
    have hstep := fun n => nmAt_yes hlt l (n := n)
    have hno := nmAt_no hlt l
    generalize L[i] = o at hLi hkk hstep hno
    have ov3 := h.keep H.ext
    obtain ⟨ad, ha, c0, c1, c2, c3, c4, c5⟩ := ov3.get hLi
    show 0 ≤ (i : Int) ∧ (i : Int) < ((s.len : Nat) : Int) ∧ Nn s.p _
    rw [ha, Int.toNat_natCast]
    refine ⟨by omega, by omega, Nn.of (Ld.mk c0 (Ld.mk c1 (Ld.mk c2 (Ld.mk c3 (Ld.mk c4 (Ld.mk c5 ?_))))))⟩
    refine (r_fits o 110 w3).mono ?_
    rintro r1 w4 ⟨rfl, e4⟩
    have hf : fitsK 110 o.1 = true := by
      unfold fitsK
      rw [if_pos rfl]
      simpa using hkk
    rw [hf]
    have H := H.keep e4
    refine Br.f rfl (H.ld 0 rfl rfl ?_)
    obtain ⟨ad', ha', c0, c1, c2, c3, c4, c5⟩ := (h.keep H.ext).get hLi
    show 0 ≤ (i : Int) ∧ (i : Int) < ((s.len : Nat) : Int) ∧ Nn s.p _
    rw [ha']
    refine ⟨by omega, by omega, Nn.of (Ld.mk c0 (Ld.mk c1 (Ld.mk c2 (Ld.mk c3 (Ld.mk c4 (Ld.mk c5 ?_))))))⟩
    refine (r_number o w4).mono ?_
    rintro x ok w5 ⟨hv, e5⟩
    have H := H.keep e5
    cases hx : numV o with
    | none =>
      rw [hx] at hv
      cases hv
      refine Br.t rfl ⟨H.ext, ?_⟩
      rw [hn, hno hx]
      trivial
    | some y =>
      rw [hx] at hv
      cases hv
      have hw : IntKind.i64.wrap ((i : Int) + 1) = ((i + 1 : Nat) : Int) := by rw [i64_id (by omega)]; rfl
      have e35 := (e3.tr e4).tr e5
      refine Br.f rfl (IO.snoc (w0 := w2) ⟨ho.1.keep (e4.tr e5) fun _ _ e => e, ho.2⟩ e35 (by omega) fun r' w' ho' e' => ?_)
      exact ⟨L.length - (i + 1), by omega, i + 1, l ++ [x], hw, by omega, rfl, by rw [List.length_append, List.length_singleton]; omega, ho', e', hn.trans (hstep _ hx)⟩
  · have : i = L.length := by omega
    subst this
    rw [nmAt_end] at hn
    rw [hn]
    exact ⟨H.ext, by trivial, ho.1, fun j hj => by have := ho.2 j hj; omega⟩
/-! ### Points before transformation -/
def pairsF (l : List Int) : List Pnt := (List.range (l.length / 2)).map fun j => (l.getD (2 * j) 0, l.getD (2 * j + 1) 0)
def cornersF (x y r t : Int) : List Pnt := [(x, y), (r, y), (r, t), (x, t)]
/-- What pairs gives. -/
def PrR (nm : By) (l : List Int) (w : World) (r : Slc) (e : Int) : Prop := if nm = [114, 101] then (match (sum2 (l.getD 0 0) (l.getD 2 0)).bind fun x => (sum2 (l.getD 1 0) (l.getD 3 0)).bind fun y => some (x, y) with
      | none => e = 2
      | some p => e = 0 ∧ QV w r (cornersF (l.getD 0 0) (l.getD 1 0) p.1 p.2))
    else e = 0 ∧ QV w r (pairsF l)
theorem r_pairs (h : IV w ns l) (hl : l.length ≤ 1000) (hre : bl a = [114, 101] → l.length = 4) : C100 a ns w fun r e w1 => Ext (fun _ => False) w w1 ∧ PrR (bl a) l w1 r e := by
  refine T100 _ _ _ _ ?_
  unfold S100
  have hlen := h.1
  refine BrNB (fun nre => ?_) fun qre => ?_
  · have nre : ¬ bl a = [114, 101] := nre
    refine ⟨fun n st v => ∃ j : Nat, st.2 = ((2 * j : Nat) : Int) ∧ 2 * j ≤ l.length ∧ n = l.length - 2 * j ∧ QO w v st.1 ((pairsF l).take j) ∧ Ext (fun _ => False) w v, l.length, ⟨0, rfl, by omega, rfl, QO.nil _ _, Ext.refl _ _⟩, ?_⟩
    rintro n ⟨r, st⟩ v ⟨j, hst, hj, rfl, ho, ev⟩
    simp only at hst ho
    subst hst
    unfold S100L1
    dsimp only
    have hw1 : IntKind.i64.wrap (((2 * j : Nat) : Int) + 1) = ((2 * j + 1 : Nat) : Int) := by rw [i64_id (by omega)]; rfl
    have hw2 : IntKind.i64.wrap (((2 * j : Nat) : Int) + 2) = ((2 * (j + 1) : Nat) : Int) := by rw [i64_id (by omega)]; omega
    rw [hw1, hw2, hlen]
    refine Br.dec (fun q => ?_) fun q => ?_
    · have ev := ev.drew
      have ho := ho.keep (Ext.refl _ v).drew
      refine ⟨fun v' => IV v' ns l, h.keep ev, ?_⟩
      rw [← hlen]
      refine ldS_iv (i := 2 * j) h (fun _ h => h) (by omega) rfl ?_
      refine ldS_iv (i := 2 * j + 1) h (fun _ h => h) (by omega) rfl ?_
      have hpl : (pairsF l).length = l.length / 2 := by unfold pairsF; simp
      refine ho.snoc (p := (l.getD (2 * j) 0, l.getD (2 * j + 1) 0)) ev (by rw [List.length_take]; omega) fun r' w' ho' e' _ => ?_
      refine ⟨l.length - 2 * (j + 1), by omega, j + 1, rfl, by omega, by omega, ?_, e'⟩
      have : (pairsF l).take (j + 1) = (pairsF l).take j ++ [(l.getD (2 * j) 0, l.getD (2 * j + 1) 0)] := by
        rw [List.take_add_one]
        congr 1
        unfold pairsF
        rw [List.getElem?_map, List.getElem?_range (by omega)]
        rfl
      rw [this]
      exact ho'
    · refine ⟨ev, ?_⟩
      unfold PrR
      rw [if_neg nre]
      refine ⟨rfl, ?_⟩
      have : (pairsF l).take j = pairsF l := List.take_of_length_le (by unfold pairsF; simp; omega)
      rw [this] at ho
      exact ho.v
  · have qre : bl a = [114, 101] := qre
    have h4 := hre qre
    have two : ∀ {v : World} {x y : Int} {X : Int → Int → World → Prop}, Ext (fun _ => False) w v → (∀ n v', Ext (fun _ => False) w v' → sum2 x y = some n → X n 0 v') → (∀ n v', Ext (fun _ => False) w v' → sum2 x y = none → X n 2 v') →
        Nw v (.cells #[.int .i64 x, .int .i64 y] 2) fun v2 => C158 (⟨some ⟨v.heap.size, 0, none⟩, 2, 2⟩ : Slc) v2 X := by
      intro v x y X e k1 k2
      refine (Hn.start v).nw (cs := ints [x, y]) fun v2 K => ?_
      refine (r_sum (IV.row' (IV.of (l := [x, y]) (K.get 0 rfl))) (by simp)).mono ?_
      rintro r e2 v3 ⟨hr, rfl⟩
      obtain ⟨h1, h2⟩ := sum_of hr
      by_cases h0 : e2 = 0
      · subst h0
        exact k1 r _ (e.tr K.ext) (h1 rfl)
      · obtain ⟨rfl, h3⟩ := h2 h0
        exact k2 r _ (e.tr K.ext) h3
    have dr : ∀ {v : World}, Ext (fun _ => False) w v → Ext (fun _ => False) w v.drew := fun e => e.drew
    refine ⟨fun v' => IV v' ns l, h.keep (dr (Ext.refl _ w)), ?_⟩
    refine ldS_iv (i := 0) h (fun _ h => h) (by omega) rfl ?_
    refine ldS_iv (i := 2) h (fun _ h => h) (by omega) rfl ?_
    refine two (dr (Ext.refl _ w)) (fun x v1 e1 hx => ?_) fun x v1 e1 hx => Br.t rfl ⟨e1, by unfold PrR; rw [if_pos qre, hx]; rfl⟩
    refine Br.f rfl ⟨fun v' => IV v' ns l, h.keep (dr e1), ?_⟩
    refine ldS_iv (i := 1) h (fun _ h => h) (by omega) rfl ?_
    refine ldS_iv (i := 3) h (fun _ h => h) (by omega) rfl ?_
    refine two (dr e1) (fun y v2 e2 hy => ?_) fun y v2 e2 hy => Br.t rfl ⟨e2, by unfold PrR; rw [if_pos qre, hx, hy]; rfl⟩
    refine Br.f rfl ⟨fun v' => IV v' ns l, h.keep (dr e2), ?_⟩
    refine ldS_iv (i := 0) h (fun _ h => h) (by omega) rfl ?_
    refine ldS_iv (i := 1) h (fun _ h => h) (by omega) rfl ?_
    refine ldS_iv (i := 1) h (fun _ h => h) (by omega) rfl ?_
    refine ldS_iv (i := 0) h (fun _ h => h) (by omega) rfl ?_
    have hS : IV v2.drew ns l := h.keep (dr e2)
    have leaf : Nw v2.drew (.cells (pts (cornersF (l.getD 0 0) (l.getD 1 0) x y)).toArray 43) fun v3 => Ext (fun _ => False) w v3 ∧ PrR (bl a) l v3 (⟨some ⟨v2.drew.heap.size, 0, none⟩, 4, 4⟩ : Slc) 0 := by
      refine (Hn.start v2.drew).nw fun v3 K => ⟨(dr e2).tr K.ext, ?_⟩
      unfold PrR
      rw [if_pos qre, hx, hy]
      exact ⟨rfl, rfl, VRow.of (K.get 0 rfl) rfl⟩
    repeat' first | exact hS | exact leaf | refine And.intro ?_ ?_
theorem ld_qv {v : World} {ps : Slc} {P : List Pnt} {K : Int → Int → Prop} {ii : Int} {i : Nat} (h : QV v ps P) (hi : i < P.length) (e : ii = (i : Int)) (k : K (P.getD i (0, 0)).1 (P.getD i (0, 0)).2) :
    0 ≤ ii ∧ ii < (ps.len : Nat) ∧ Nn ps.p fun a5 => Ld v (a5.add (ii.toNat * 2)) (Value.int .i64) fun (x6 : Int) => Ld v ((a5.add (ii.toNat * 2)).add 1) (Value.int .i64) fun (x7 : Int) => K x6 x7 := by
  subst e
  have hg : P[i]? = some (P.getD i (0, 0)) := by rw [List.getD_eq_getElem?_getD, List.getElem?_eq_getElem hi]; rfl
  obtain ⟨ad, ha, c0, c1⟩ := h.get hg
  have hl := h.1
  rw [ha, Int.toNat_natCast]
  exact ⟨by omega, by omega, Nn.of (Ld.mk c0 (Ld.mk c1 k))⟩
theorem ldS_qv {S : World → Prop} {v : World} {ps : Slc} {P : List Pnt} {K : Int → Int → Prop} {ii : Int} {i : Nat} (h0 : QV v ps P) (h : ∀ v', S v' → QV v' ps P) (hi : i < P.length) (e : ii = (i : Int)) (k : K (P.getD i (0, 0)).1 (P.getD i (0, 0)).2) :
    0 ≤ ii ∧ ii < (ps.len : Nat) ∧ Nn ps.p fun a5 => LdS S (a5.add (ii.toNat * 2)) (Value.int .i64) fun (x6 : Int) => LdS S ((a5.add (ii.toNat * 2)).add 1) (Value.int .i64) fun (x7 : Int) => K x6 x7 := by
  subst e
  have hg : P[i]? = some (P.getD i (0, 0)) := by rw [List.getD_eq_getElem?_getD, List.getElem?_eq_getElem hi]; rfl
  obtain ⟨ad, ha, _⟩ := h0.get hg
  have hl := h0.1
  have g : ∀ v', S v' → v'.cell? (ad.add (i * 2)) = some (.int .i64 (P.getD i (0, 0)).1) ∧ v'.cell? ((ad.add (i * 2)).add 1) = some (.int .i64 (P.getD i (0, 0)).2) := fun v' hv => by
    obtain ⟨ad', ha', c⟩ := (h v' hv).get hg
    rw [ha] at ha'
    cases ha'
    exact c
  rw [ha, Int.toNat_natCast]
  exact ⟨by omega, by omega, Nn.of (ldS_mk (fun v' hv => (g v' hv).1) (ldS_mk (fun v' hv => (g v' hv).2) k))⟩
theorem SV.of {g : Nat} {T : List Sg} {t : TypeId} (h : Blk w g (sgs T).toArray t) : SV w (rowS g T.length) T := ⟨rfl, VRow.of h (sgs_len T)⟩
/-! ### The current point -/
theorem ld_sv {v : World} {K : Int → Int → Int → Int → Int → Int → Int → Prop} {ii : Int} {i : Nat} {o : Sg} (h : SV v sl M) (ho : M[i]? = some o) (e : ii = (i : Int)) (k : K o.1 o.2.1 o.2.2.1 o.2.2.2.1 o.2.2.2.2.1 o.2.2.2.2.2.1 o.2.2.2.2.2.2) :
    0 ≤ ii ∧ ii < (sl.len : Nat) ∧ Nn sl.p fun a => Ld v (a.add (ii.toNat * 7)) (Value.int .i64) fun (x0 : Int) => Ld v ((a.add (ii.toNat * 7)).add 1) (Value.int .i64) fun (x1 : Int) => Ld v ((a.add (ii.toNat * 7)).add 2) (Value.int .i64) fun (x2 : Int) => Ld v ((a.add (ii.toNat * 7)).add 3) (Value.int .i64) fun (x3 : Int) =>
      Ld v ((a.add (ii.toNat * 7)).add 4) (Value.int .i64) fun (x4 : Int) => Ld v ((a.add (ii.toNat * 7)).add 5) (Value.int .i64) fun (x5 : Int) => Ld v ((a.add (ii.toNat * 7)).add 6) (Value.int .i64) fun (x6 : Int) => K x0 x1 x2 x3 x4 x5 x6 := by
  subst e
  obtain ⟨ad, ha, hc⟩ := h.get ho
  have hl := h.1
  have hi := (List.getElem?_eq_some_iff.1 ho).1
  have h0 := hc 0 _ rfl
  rw [add_add', Nat.add_zero] at h0
  rw [ha, Int.toNat_natCast]
  exact ⟨by omega, by omega, Nn.of (Ld.mk h0 (Ld.mk (hc 1 _ rfl) (Ld.mk (hc 2 _ rfl) (Ld.mk (hc 3 _ rfl) (Ld.mk (hc 4 _ rfl) (Ld.mk (hc 5 _ rfl) (Ld.mk (hc 6 _ rfl) k)))))))⟩
theorem fold_take {i : Nat} {o : Sg} (ho : M[i]? = some o) (b : Pnt) : (M.take (i + 1)).foldl bgF b = bgF ((M.take i).foldl bgF b) o := by
  rw [List.take_add_one, ho, List.foldl_append]
  rfl
theorem r_current (h : SV w sl M) (hne : M ≠ []) (hl : M.length ≤ 100000) : C101 sl w fun r w1 => r = curS M (M.foldl bgF (0, 0)) ∧ Ext (fun _ => False) w w1 := by
  refine T101 _ _ _ ?_
  unfold S101
  refine (Hn.start w).nw fun w2 H => ?_
  simp only [List.nil_append, add_lit, Nat.zero_add] at H ⊢
  have hl0 : 0 < M.length := List.length_pos_iff.2 hne
  have hlen := h.1
  have hi : IntKind.i64.wrap (((sl.len : Nat) : Int) - 1) = ((M.length - 1 : Nat) : Int) := by rw [hlen, i64_id (by omega)]; omega
  have hlast : M[M.length - 1]? = some M[M.length - 1] := List.getElem?_eq_getElem (by omega)
  have hget : M.getLast? = some M[M.length - 1] := by rw [List.getLast?_eq_getElem?, hlast]
  generalize M[M.length - 1] = o at hlast hget
  refine ld_sv (h.keep H.ext) hlast hi ?_
  refine H.nw fun w3 H => ?_
  simp only [List.cons_append, List.nil_append] at H
  iterate 7 (refine H.st 1 rfl (by simp) fun _ H => ?_; simp only [List.set_cons_zero, List.set_cons_succ] at H)
  refine H.ld 1 rfl rfl (Br.ne (fun q4 => ?_) fun q4 => ?_)
  · iterate 2 refine H.ld 1 rfl rfl ?_
    iterate 2 (refine H.st 0 rfl (by simp) fun _ H => ?_; simp only [List.set_cons_zero, List.set_cons_succ] at H)
    iterate 2 refine H.ld 0 rfl rfl ?_
    refine ⟨?_, H.ext⟩
    unfold curS
    rw [hget]
    exact (if_neg q4).symm
  · refine H.nw fun w5 H => ?_
    simp only [List.cons_append, List.nil_append] at H
    iterate 2 (refine H.st 2 rfl (by simp) fun _ H => ?_; simp only [List.set_cons_zero, List.set_cons_succ] at H)
    refine ⟨fun n st v => ∃ i : Nat, st = (i : Int) ∧ i ≤ M.length ∧ n = M.length - i ∧ Hn w v [(w.heap.size, [.int .i64 0, .int .i64 0], 43), (w2.heap.size, sgrow o, 67), (_, ptrow ((M.take i).foldl bgF (0, 0)), 43)], M.length, ⟨0, rfl, by omega, rfl, H⟩, ?_⟩
    clear H
    rintro n st v ⟨i, rfl, hi, rfl, H⟩
    unfold S101L1
    simp only [add_lit, Nat.zero_add]
    rw [hlen]
    refine Br.dec (fun q => ?_) fun q => ?_
    · have ho : M[i]? = some M[i] := List.getElem?_eq_getElem (by omega)
      generalize M[i] = u at ho
      have hf := fold_take ho (0, 0)
      rw [← hlen]
      refine ld_sv (h.keep H.ext) ho rfl ?_
      refine H.nw fun w7 H => ?_
      simp only [List.cons_append, List.nil_append] at H
      iterate 7 (refine H.st 3 rfl (by simp) fun _ H => ?_; simp only [List.set_cons_zero, List.set_cons_succ] at H)
      have hw : IntKind.i64.wrap ((i : Int) + 1) = ((i + 1 : Nat) : Int) := by rw [i64_id (by omega)]; rfl
      refine H.ld 3 rfl rfl (Br.eq (fun q1 => ?_) fun q1 => ?_)
      · iterate 2 refine H.ld 3 rfl rfl ?_
        iterate 2 (refine H.st 2 rfl (by simp [ptrow]) fun _ H => ?_; simp only [ptrow, List.set_cons_zero, List.set_cons_succ] at H)
        refine ⟨M.length - (i + 1), by omega, i + 1, hw, by omega, by omega, ?_⟩
        rw [hf]
        have : bgF ((M.take i).foldl bgF (0, 0)) u = (u.2.2.2.2.2.1, u.2.2.2.2.2.2) := if_pos q1
        rw [this]
        exact Hn.left (L := [_, _, _]) (M := [_]) H
      · refine ⟨M.length - (i + 1), by omega, i + 1, hw, by omega, by omega, ?_⟩
        rw [hf]
        have : bgF ((M.take i).foldl bgF (0, 0)) u = (M.take i).foldl bgF (0, 0) := if_neg q1
        rw [this]
        exact Hn.left (L := [_, _, _]) (M := [_]) H
    · have hil : i = M.length := by omega
      subst hil
      rw [List.take_length] at H
      iterate 2 refine H.ld 2 rfl rfl ?_
      iterate 2 (refine H.st 0 rfl (by simp) fun _ H => ?_; simp only [List.set_cons_zero, List.set_cons_succ] at H)
      iterate 2 refine H.ld 0 rfl rfl ?_
      refine ⟨?_, H.ext⟩
      unfold curS
      rw [hget]
      exact (if_pos q4).symm
/-! ### Segments -/
abbrev p0 : Pnt := (0, 0)
def partsF (nm : By) (P : List Pnt) (h : Pnt) : List Sg := if nm = [109] then [mvS (P.getD 0 p0)] else if nm = [108] then [lnS (P.getD 0 p0)] else if nm = [99] then [cvS (P.getD 0 p0) (P.getD 1 p0) (P.getD 2 p0)]
  else if nm = [118] then [cvS h (P.getD 0 p0) (P.getD 1 p0)] else if nm = [121] then [cvS (P.getD 0 p0) (P.getD 1 p0) (P.getD 1 p0)] else if nm = [104] then [clS]
  else if nm = [114, 101] then [mvS (P.getD 0 p0), lnS (P.getD 1 p0), lnS (P.getD 2 p0), lnS (P.getD 3 p0), clS] else []
def needP (nm : By) : Nat := if nm = [109] then 1 else if nm = [108] then 1 else if nm = [99] then 3 else if nm = [118] then 2 else if nm = [121] then 2 else if nm = [104] then 0 else if nm = [114, 101] then 4 else 0
theorem r_parts {ps : Slc} {P : List Pnt} {here : Pnt} (h : QV w ps P) (hP : needP (bl a) ≤ P.length) : C102 a ps here w fun r w1 => SV w1 r (partsF (bl a) P here) ∧ Ext (fun _ => False) w w1 := by
  refine T102 _ _ _ _ _ ?_
  unfold S102
  refine (Hn.start w).nw fun w2 H => ?_
  simp only [List.nil_append, add_lit, Nat.zero_add] at H ⊢
  have h2 := h.keep H.ext
  have h3 := h.keep H.drew.ext
  have hlen := h.1
  unfold partsF needP at *
  have one : ∀ {v : World} {o : Sg}, Ext (fun _ => False) w v → Nw v (.cells (sgs [o]).toArray 67) fun v2 => SV v2 (rowS v.heap.size 1) [o] ∧ Ext (fun _ => False) w v2 := fun e => by
    refine (Hn.start _).nw fun v2 K => ⟨SV.of (T := [_]) (K.get 0 rfl), e.tr K.ext⟩
  refine BrB (fun q => ?_) fun n1 => ?_
  · have q : bl a = [109] := q
    rw [if_pos q] at hP ⊢
    exact ld_qv (i := 0) h2 (by omega) rfl (one (o := mvS (P.getD 0 p0)) H.ext)
  have n1 : ¬ bl a = [109] := n1
  rw [if_neg n1] at hP ⊢
  refine BrB (fun q => ?_) fun n2 => ?_
  · have q : bl a = [108] := q
    rw [if_pos q] at hP ⊢
    exact ld_qv (i := 0) h2 (by omega) rfl (one (o := lnS (P.getD 0 p0)) H.ext)
  have n2 : ¬ bl a = [108] := n2
  rw [if_neg n2] at hP ⊢
  refine BrB (fun q => ?_) fun n3 => ?_
  · have q : bl a = [99] := q
    rw [if_pos q] at hP ⊢
    exact ld_qv (i := 0) h3 (by omega) rfl (ld_qv (i := 1) h3 (by omega) rfl (ld_qv (i := 2) h3 (by omega) rfl (one (o := cvS (P.getD 0 p0) (P.getD 1 p0) (P.getD 2 p0)) H.drew.ext)))
  have n3 : ¬ bl a = [99] := n3
  rw [if_neg n3] at hP ⊢
  refine BrB (fun q => ?_) fun n4 => ?_
  · have q : bl a = [118] := q
    rw [if_pos q] at hP ⊢
    iterate 2 refine H.drew.ld 0 rfl rfl ?_
    exact ld_qv (i := 0) h3 (by omega) rfl (ld_qv (i := 1) h3 (by omega) rfl (one (o := cvS here (P.getD 0 p0) (P.getD 1 p0)) H.drew.ext))
  have n4 : ¬ bl a = [118] := n4
  rw [if_neg n4] at hP ⊢
  refine BrB (fun q => ?_) fun n5 => ?_
  · have q : bl a = [121] := q
    rw [if_pos q] at hP ⊢
    exact ld_qv (i := 0) h3 (by omega) rfl (ld_qv (i := 1) h3 (by omega) rfl (ld_qv (i := 1) h3 (by omega) rfl (one (o := cvS (P.getD 0 p0) (P.getD 1 p0) (P.getD 1 p0)) H.drew.ext)))
  have n5 : ¬ bl a = [121] := n5
  rw [if_neg n5] at hP ⊢
  refine BrB (fun q => ?_) fun n6 => ?_
  · have q : bl a = [104] := q
    rw [if_pos q]
    exact one (o := clS) H.ext
  have n6 : ¬ bl a = [104] := n6
  rw [if_neg n6] at hP ⊢
  refine BrB (fun q => ?_) fun n7 => ?_
  · have q : bl a = [114, 101] := q
    rw [if_pos q] at hP ⊢
    refine ⟨fun v' => QV v' ps P, h3, ?_⟩
    refine ldS_qv (i := 0) h3 (fun _ h => h) (by omega) rfl (ldS_qv (i := 1) h3 (fun _ h => h) (by omega) rfl (ldS_qv (i := 2) h3 (fun _ h => h) (by omega) rfl (ldS_qv (i := 3) h3 (fun _ h => h) (by omega) rfl ?_)))
    refine ⟨fun a b => Ext (fun _ => False) a b, fun v => Ext (fun _ => False) w v, H.drew.ext, ?_⟩
    refine ⟨fun z v => z = mvS (P.getD 0 p0), fun z a b e h => h, fun z v => z = lnS (P.getD 1 p0), fun z a b e h => h, fun z v => z = lnS (P.getD 2 p0), fun z a b e h => h, fun z v => z = lnS (P.getD 3 p0), fun z a b e h => h, fun z v => z = clS, fun z a b e h => h, ?_⟩
    refine ⟨⟨?_, ?_, ?_, ?_, ?_, trivial⟩, ?_⟩
    · exact fun v h e => ⟨h, e, Ext.refl _ _, mvS (P.getD 0 p0), rfl, rfl⟩
    · exact fun v h e => ⟨h, e, Ext.refl _ _, lnS (P.getD 1 p0), rfl, rfl⟩
    · exact fun v h e => ⟨h, e, Ext.refl _ _, lnS (P.getD 2 p0), rfl, rfl⟩
    · exact fun v h e => ⟨h, e, Ext.refl _ _, lnS (P.getD 3 p0), rfl, rfl⟩
    · exact fun v h e => ⟨h, e, Ext.refl _ _, clS, rfl, rfl⟩
    rintro v _ e z1 rfl z2 rfl z3 rfl z4 rfl z5 rfl
    refine (Hn.start v).nw (cs := sgs [mvS (P.getD 0 p0), lnS (P.getD 1 p0), lnS (P.getD 2 p0), lnS (P.getD 3 p0), clS]) fun v2 K => ⟨SV.of (K.get 0 rfl), e.tr K.ext⟩
  · have n7 : ¬ bl a = [114, 101] := n7
    rw [if_neg n7]
    exact ⟨SV.nil _, H.ext⟩
end
end Pat
end Go.Proofs.YtjbeembbnkmpeaaDoor

/- Paths: the reference's Do. Conditions: sizes. -/
namespace Go.Proofs.YtjbeembbnkmpeaaDoor
namespace Pat
open Sh Mat Fix Opr
set_option linter.unusedVariables false
set_option linter.unusedSimpArgs false
set_option maxRecDepth 8000
set_option maxHeartbeats 8000000
/-! ### Plain: what is drawn, part by part -/
def ledM (m : Mx) : List Pnt → Option (List Pnt)
  | [] => some []
  | p :: r => (applyP m p).bind fun q => (ledM m r).bind fun l => some (q :: l)
theorem ledM_app (m : Mx) : ∀ (A B : List Pnt), ledM m (A ++ B) = (ledM m A).bind fun x => (ledM m B).bind fun y => some (x ++ y)
  | [], B => by
    show ledM m B = _
    cases ledM m B <;> rfl
  | p :: A, B => by
    show ((applyP m p).bind fun q => (ledM m (A ++ B)).bind fun l => some (q :: l)) = ((applyP m p).bind fun q => (ledM m A).bind fun l => some (q :: l)).bind fun x => (ledM m B).bind fun y => some (x ++ y)
    rw [ledM_app m A B]
    cases applyP m p with
    | none => rfl
    | some q =>
      simp only [Option.bind_some]
      cases ledM m A with
      | none => rfl
      | some x =>
        simp only [Option.bind_some]
        cases ledM m B <;> rfl
theorem ledM_len {m : Mx} : ∀ {A x : List Pnt}, ledM m A = some x → x.length = A.length
  | [], x, h => by cases h; rfl
  | p :: A, x, h => by
    unfold ledM at h
    obtain ⟨q, _, h⟩ := bd h
    obtain ⟨l, hl, h⟩ := bd h
    cases h
    rw [List.length_cons, List.length_cons, ledM_len hl]
def ptsOf (nm : By) (l : List Int) : Option (List Pnt) := if nm = [114, 101] then ((sum2 (l.getD 0 0) (l.getD 2 0)).bind fun x => (sum2 (l.getD 1 0) (l.getD 3 0)).bind fun y => some (cornersF (l.getD 0 0) (l.getD 1 0) x y)) else some (pairsF l)
theorem ptsOf_no {nm : By} (h : nm ≠ [114, 101]) (l : List Int) : ptsOf nm l = some (pairsF l) := if_neg h
theorem len2 {l : List Int} (h : l.length = 2) : ∃ a b, l = [a, b] := by
  match l, h with
  | [a, b], _ => exact ⟨a, b, rfl⟩
theorem len4 {l : List Int} (h : l.length = 4) : ∃ a b c d, l = [a, b, c, d] := by
  match l, h with
  | [a, b, c, d], _ => exact ⟨a, b, c, d, rfl⟩
theorem len6 {l : List Int} (h : l.length = 6) : ∃ a b c d e f, l = [a, b, c, d, e, f] := by
  match l, h with
  | [a, b, c, d, e, f], _ => exact ⟨a, b, c, d, e, f, rfl⟩
theorem takes_nine : takes [109] = [110, 110] ∧ takes [108] = [110, 110] ∧ takes [99] = [110, 110, 110, 110, 110, 110] ∧ takes [118] = [110, 110, 110, 110] ∧ takes [121] = [110, 110, 110, 110] ∧ takes [104] = [] ∧ takes [114, 101] = [110, 110, 110, 110] ∧ takes [87] = [] ∧ takes [87, 42] = [] := by decide +kernel
/-- What is drawn is what the parts make of the points that are led. -/
theorem draw_parts {nm : By} {m : Mx} {h : Pnt} {l : List Int} (hn : nm ∈ nine) (hl : l.length = (takes nm).length) : drawF nm m h l = (ptsOf nm l).bind fun P => (ledM m P).bind fun Q => some (partsF nm Q h) := by
  obtain ⟨t1, t2, t3, t4, t5, t6, t7, t8, t9⟩ := takes_nine
  simp only [nine, List.mem_cons, List.not_mem_nil, or_false] at hn
  rcases hn with rfl | rfl | rfl | rfl | rfl | rfl | rfl | rfl | rfl
  · rw [t1] at hl
    obtain ⟨a, b, rfl⟩ := len2 hl
    rw [draw_m, ptsOf_no (by decide), show pairsF [a, b] = [(a, b)] by kernel_rfl, Option.bind_some]
    show (applyP m (a, b)).bind (fun p => some [mvS p]) = (ledM m [(a, b)]).bind fun Q => some (partsF [109] Q h)
    unfold ledM ledM
    cases applyP m (a, b) <;> rfl
  · rw [t2] at hl
    obtain ⟨a, b, rfl⟩ := len2 hl
    rw [draw_l, ptsOf_no (by decide), show pairsF [a, b] = [(a, b)] by kernel_rfl, Option.bind_some]
    show (applyP m (a, b)).bind (fun p => some [lnS p]) = (ledM m [(a, b)]).bind fun Q => some (partsF [108] Q h)
    unfold ledM ledM
    cases applyP m (a, b) <;> rfl
  · rw [t3] at hl
    obtain ⟨a, b, c, d, e, f, rfl⟩ := len6 hl
    rw [draw_c, ptsOf_no (by decide), show pairsF [a, b, c, d, e, f] = [(a, b), (c, d), (e, f)] by kernel_rfl, Option.bind_some]
    show (applyP m (a, b)).bind (fun p => (applyP m (c, d)).bind fun q => (applyP m (e, f)).bind fun r => some [cvS p q r]) = (ledM m [(a, b), (c, d), (e, f)]).bind fun Q => some (partsF [99] Q h)
    unfold ledM ledM ledM ledM
    cases applyP m (a, b) <;> cases applyP m (c, d) <;> cases applyP m (e, f) <;> rfl
  · rw [t4] at hl
    obtain ⟨a, b, c, d, rfl⟩ := len4 hl
    rw [draw_v, ptsOf_no (by decide), show pairsF [a, b, c, d] = [(a, b), (c, d)] by kernel_rfl, Option.bind_some]
    show (applyP m (a, b)).bind (fun p => (applyP m (c, d)).bind fun q => some [cvS h p q]) = (ledM m [(a, b), (c, d)]).bind fun Q => some (partsF [118] Q h)
    unfold ledM ledM ledM
    cases applyP m (a, b) <;> cases applyP m (c, d) <;> rfl
  · rw [t5] at hl
    obtain ⟨a, b, c, d, rfl⟩ := len4 hl
    rw [draw_y, ptsOf_no (by decide), show pairsF [a, b, c, d] = [(a, b), (c, d)] by kernel_rfl, Option.bind_some]
    show (applyP m (a, b)).bind (fun p => (applyP m (c, d)).bind fun q => some [cvS p q q]) = (ledM m [(a, b), (c, d)]).bind fun Q => some (partsF [121] Q h)
    unfold ledM ledM ledM
    cases applyP m (a, b) <;> cases applyP m (c, d) <;> rfl
  · rw [t6] at hl
    obtain rfl : l = [] := List.eq_nil_of_length_eq_zero hl
    rfl
  · rw [t7] at hl
    obtain ⟨a, b, c, d, rfl⟩ := len4 hl
    rw [draw_re]
    unfold rectF ptsOf
    rw [if_pos rfl]
    show (sum2 a c).bind _ = ((sum2 a c).bind _).bind _
    cases sum2 a c with
    | none => rfl
    | some x =>
    show (sum2 b d).bind _ = ((sum2 b d).bind _).bind _
    cases sum2 b d with
    | none => rfl
    | some y =>
    show (applyP m (a, b)).bind (fun p => (applyP m (x, b)).bind fun q => (applyP m (x, y)).bind fun u => (applyP m (a, y)).bind fun v => some [mvS p, lnS q, lnS u, lnS v, clS]) = (ledM m [(a, b), (x, b), (x, y), (a, y)]).bind _
    unfold ledM ledM ledM ledM ledM
    cases applyP m (a, b) <;> cases applyP m (x, b) <;> cases applyP m (x, y) <;> cases applyP m (a, y) <;> rfl
  · rw [t8] at hl
    obtain rfl : l = [] := List.eq_nil_of_length_eq_zero hl
    rfl
  · rw [t9] at hl
    obtain rfl : l = [] := List.eq_nil_of_length_eq_zero hl
    rfl
theorem need_ok {nm : By} {l : List Int} {P : List Pnt} (hn : nm ∈ nine) (hl : l.length = (takes nm).length) (hP : ptsOf nm l = some P) : needP nm ≤ P.length ∧ P.length ≤ 4 := by
  obtain ⟨t1, t2, t3, t4, t5, t6, t7, t8, t9⟩ := takes_nine
  have pl : ∀ (k : Nat), l.length = k → (pairsF l).length = k / 2 := fun k hk => by unfold pairsF; simp [hk]
  have ne : nm ≠ [114, 101] → (pairsF l) = P := fun h => by
    unfold ptsOf at hP
    rw [if_neg h] at hP
    exact Option.some.inj hP
  simp only [nine, List.mem_cons, List.not_mem_nil, or_false] at hn
  rcases hn with rfl | rfl | rfl | rfl | rfl | rfl | rfl | rfl | rfl
  · rw [t1] at hl; rw [← ne (by decide), pl 2 hl]; decide
  · rw [t2] at hl; rw [← ne (by decide), pl 2 hl]; decide
  · rw [t3] at hl; rw [← ne (by decide), pl 6 hl]; decide
  · rw [t4] at hl; rw [← ne (by decide), pl 4 hl]; decide
  · rw [t5] at hl; rw [← ne (by decide), pl 4 hl]; decide
  · rw [t6] at hl; rw [← ne (by decide), pl 0 hl]; decide
  · unfold ptsOf at hP
    rw [if_pos rfl] at hP
    obtain ⟨x, _, hP⟩ := bd hP
    obtain ⟨y, _, hP⟩ := bd hP
    cases hP
    exact ⟨Nat.le_refl 4, Nat.le_refl 4⟩
  · rw [t8] at hl; rw [← ne (by decide), pl 0 hl]; decide
  · rw [t9] at hl; rw [← ne (by decide), pl 0 hl]; decide
theorem do_bg {p : Pa} {nm d : By} {L : List Ob} {m : Mx} (h : p.bg = p.L.foldl bgF (0, 0)) : (doP p nm d L m).2.bg = (doP p nm d L m).2.L.foldl bgF (0, 0) := by
  unfold doP
  split
  · exact h
  split
  · exact h
  split
  · exact h
  split
  · exact h
  split
  · exact h
  split
  · show List.foldl bgF p.bg _ = _
    rw [h, List.foldl_append]
  · exact h
section
variable {w0 w w' w1 : World} {s sl ns : Slc} {L : List Ob} {l : List Int} {m : Mx} {a d : ByteArray} {p : Pa}
attribute [local irreducible] Ld Sh.St Nw Nn LdS LdT LdST StT
/-- What the reference's Do gives. -/
def RDo (sl : Slc) (w w1 : World) (q : Int × Pa) (r : Slc × Bool) (e : Int) : Prop := e = q.1 ∧ SV w1 r.1 q.2.L ∧ r.2 = q.2.cl ∧ Ext (fun _ => False) w w1 ∧ (r.1 = sl ∨ ∀ j, r.1.own j → w.heap.size ≤ j ∧ j < w1.heap.size)
theorem r_do (h : SV w sl p.L) (hbg : p.bg = p.L.foldl bgF (0, 0)) (hfew : p.L.length ≤ 8192) (ho : OV w s L) (hL : L.length ≤ 9223372036854775807) : C38 (sl, p.cl) (a, s, d) m w fun r e w1 => RDo sl w w1 (doP p (bl a) (bl d) L m) r e := by
  refine T38 (sl, p.cl) (a, s, d) m _ _ ?_
  unfold S38
  have hlen := h.1
  refine (Hn.start w).nw fun w2 H => ?_
  refine H.nw fun w3 H => ?_
  refine H.nw fun w4 H => ?_
  refine H.nw fun w5 H => ?_
  simp only [List.cons_append, List.nil_append, add_lit, Nat.zero_add] at H ⊢
  let base : List (Nat × List Value × TypeId) := [(w.heap.size, [Slc.v sl, .bool p.cl], 86), (w2.heap.size, [.string a, Slc.v s, .string d], 63), (w3.heap.size, mrow m, 23), (w4.heap.size, [Slc.v nilS, .bool false], 86)]
  have H : Hn w w5 base := H
  have bad : ∀ {v : World} {e : Int}, Hn w v base → doP p (bl a) (bl d) L m = (e, p) → Ld v ⟨w.heap.size, 0, none⟩ Slc.v fun x => Ld v ⟨w.heap.size, 1, none⟩ Value.bool fun y => Sh.St v ⟨w4.heap.size, 0, none⟩ (Slc.v x) fun v1 => Sh.St v1 ⟨w4.heap.size, 1, none⟩ (.bool y) fun v2 =>
      Ld v2 ⟨w4.heap.size, 0, none⟩ Slc.v fun x2 => Ld v2 ⟨w4.heap.size, 1, none⟩ Value.bool fun y2 => RDo sl w v2 (doP p (bl a) (bl d) L m) (x2, y2) e := by
    intro v e H hd
    refine H.ld 0 rfl rfl (H.ld 0 rfl rfl ?_)
    iterate 2 (refine H.st 3 rfl (by simp) fun _ H => ?_; simp only [base, List.set_cons_zero, List.set_cons_succ] at H)
    refine H.ld 3 rfl rfl (H.ld 3 rfl rfl ?_)
    rw [hd]
    exact ⟨rfl, h.keep H.ext, rfl, H.ext, .inl rfl⟩
  refine H.ld 1 rfl rfl ?_
  refine (r_builds a _).mono ?_
  rintro r w6 ⟨rfl, rfl⟩
  by_cases hk : bl a ∈ nine
  rotate_left
  · rw [decide_eq_false hk]
    exact Br.t rfl (bad H (by unfold doP; rw [if_pos hk]))
  rw [decide_eq_true hk]
  refine Br.f rfl ?_
  iterate 3 refine H.ld 1 rfl rfl ?_
  refine (r_check (ho.keep H.ext) hL).mono ?_
  rintro r w7 ⟨rfl, e7⟩
  have H := H.keep e7
  refine Br.ne (fun hc => bad H (by unfold doP; rw [if_neg (fun hn => hn hk), if_pos hc])) fun hck => ?_
  have hL6 : L.length ≤ 6 := by
    obtain ⟨_, h1, _⟩ := chk0 hck
    have := (takes_low (bl a)).1
    omega
  refine Join.intro ?_
  have main : ∀ {v : World}, Hn w v base → ¬ (bl a ≠ [109] ∧ bl a ≠ [114, 101] ∧ p.L = []) → S38J2 w w2 w3 w4 (fun r e w1 => RDo sl w w1 (doP p (bl a) (bl d) L m) r e) () v := by
    intro v H hg
    have hdo : doP p (bl a) (bl d) L m = (match nmO L with
        | none => (2, p)
        | some l => match drawF (bl a) m (curS p.L p.bg) l with
          | none => (2, p)
          | some T => if p.L.length + T.length ≤ 8192 then (0, ⟨p.L ++ T, T.foldl bgF p.bg, p.cl || clipN (bl a)⟩) else (6, p)) := by
      unfold doP
      rw [if_neg (fun hn => hn hk), if_neg (fun hn => hn hck), if_neg hg]
      all_goals (cases nmO L <;> first | rfl | (rename_i l; dsimp only; cases drawF (bl a) m (curS p.L p.bg) l <;> rfl))
    unfold S38J2
    simp only [add_lit, Nat.zero_add]
    iterate 3 refine H.ld 1 rfl rfl ?_
    refine (r_nums (ho.keep H.ext) (by omega) (nine_kinds hk hck)).mono ?_
    rintro r56 e57 v2 ⟨e2, hnum⟩
    have H := H.keep e2
    cases hn : nmO L with
    | none =>
      rw [hn] at hnum hdo
      obtain rfl : e57 = 2 := hnum
      exact Br.t rfl (bad H hdo)
    | some l =>
    rw [hn] at hnum hdo
    obtain ⟨rfl, hio⟩ := hnum
    dsimp only at hdo
    have hll : l.length = (takes (bl a)).length := by rw [nmO_len hn, (chk0 hck).2.1]
    have hl6 : l.length ≤ 6 := by rw [nmO_len hn]; exact hL6
    rw [draw_parts hk hll] at hdo
    refine Br.f rfl (H.ld 1 rfl rfl ?_)
    refine (r_pairs hio.iv (by omega) (fun q => by rw [hll, q]; decide)).mono ?_
    rintro r70 e71 v3 ⟨e3, hpr⟩
    have H := H.keep e3
    have hP : (ptsOf (bl a) l = none ∧ e71 = 2) ∨ ∃ P, ptsOf (bl a) l = some P ∧ e71 = 0 ∧ QV v3 r70 P := by
      unfold PrR at hpr
      unfold ptsOf
      by_cases q : bl a = [114, 101]
      · rw [if_pos q] at hpr ⊢
        cases h1 : sum2 (l.getD 0 0) (l.getD 2 0) with
        | none => rw [h1] at hpr; exact .inl ⟨rfl, hpr⟩
        | some x =>
        cases h2 : sum2 (l.getD 1 0) (l.getD 3 0) with
        | none => rw [h1, h2] at hpr; exact .inl ⟨rfl, hpr⟩
        | some y =>
          rw [h1, h2] at hpr
          exact .inr ⟨_, rfl, hpr⟩
      · rw [if_neg q] at hpr ⊢
        exact .inr ⟨_, rfl, hpr⟩
    rcases hP with ⟨hP, rfl⟩ | ⟨P, hP, rfl, hq⟩
    · rw [hP] at hdo
      exact Br.t rfl (bad H hdo)
    rw [hP, Option.bind_some] at hdo
    obtain ⟨hneed, hP4⟩ := need_ok hk hll hP
    have hq1 := hq.1
    refine Br.f rfl ?_
    refine ⟨fun n st u => ∃ (i : Nat) (Q : List Pnt), st.2 = (i : Int) ∧ i ≤ P.length ∧ n = P.length - i ∧ ledM m (P.take i) = some Q ∧ QO v3 u st.1 Q ∧ Ext (fun _ => False) v3 u, P.length, ⟨0, [], rfl, by omega, rfl, rfl, QO.nil _ _, Ext.refl _ _⟩, ?_⟩
    rintro n ⟨r, st⟩ u ⟨i, Q, hst, hi, rfl, hled, hqo, eu⟩
    simp only at hst hqo
    subst hst
    have H := H.keep eu
    have hqu := hq.keep eu
    unfold S38L1
    dsimp only
    simp only [add_lit, Nat.zero_add]
    rw [hq.1]
    have hQl := ledM_len hled
    rw [List.length_take] at hQl
    refine Br.dec (fun q => ?_) fun q => ?_
    · have hi4 : i < P.length := by omega
      rw [← hq.1]
      refine ld_qv (i := i) hqu hi4 rfl ?_
      have hpi : P[i]? = some (P.getD i (0, 0)) := by rw [List.getD_eq_getElem?_getD, List.getElem?_eq_getElem hi4]; rfl
      have htake : P.take (i + 1) = P.take i ++ [P.getD i (0, 0)] := by rw [List.take_add_one, hpi]; rfl
      have hall : ledM m P = (ledM m (P.take (i + 1))).bind fun x => (ledM m (P.drop (i + 1))).bind fun y => some (x ++ y) := by
        rw [← ledM_app, List.take_append_drop]
      rw [htake, ledM_app, hled, Option.bind_some] at hall
      generalize P.getD i (0, 0) = o at hall htake
      have hsing : ledM m [o] = (applyP m o).bind fun q => some [q] := by
        unfold ledM ledM
        cases applyP m o <;> rfl
      rw [hsing] at hall
      refine (Hn.start u).nw fun u2 K => ?_
      simp only [List.nil_append, add_lit, Nat.zero_add] at K ⊢
      iterate 2 (refine K.st 0 rfl (by simp) fun _ K => ?_; simp only [List.set_cons_zero, List.set_cons_succ] at K)
      have H := H.keep K.ext
      iterate 6 refine H.ld 2 rfl rfl ?_
      iterate 2 refine K.ld 0 rfl rfl ?_
      refine (r_apply m o _).mono ?_
      rintro q1 e1 u3 ⟨hr, e3⟩
      have K := K.keep e3
      have H := H.keep e3
      refine (Hn.start u3).nw fun u4 K2 => ?_
      simp only [List.nil_append] at K2
      iterate 2 (refine K2.st 0 rfl (by simp) fun _ K2 => ?_; simp only [List.set_cons_zero, List.set_cons_succ] at K2)
      have H := H.keep K2.ext
      cases hap : applyP m o with
      | none =>
        rw [hap] at hr hall
        have hr : q1 = (0, 0) ∧ e1 = 2 := Prod.mk.inj hr
        obtain ⟨_, rfl⟩ := hr
        rw [hall] at hdo
        exact Br.t rfl (bad H hdo)
      | some z =>
        rw [hap] at hr
        have hr : q1 = z ∧ e1 = 0 := Prod.mk.inj hr
        obtain ⟨rfl, rfl⟩ := hr
        refine Br.f rfl ?_
        iterate 2 refine K2.ld 0 rfl rfl ?_
        have ek := (K.ext.tr K2.ext)
        refine (hqo.keep ek).snoc (p := q1) (eu.tr ek) (by omega) fun r' u5 ho' e5 _ => ?_
        refine ⟨P.length - (i + 1), by omega, i + 1, Q ++ [q1], by rw [i64_id (by omega)]; rfl, by omega, by omega, ?_, ho', e5⟩
        rw [htake, ledM_app, hled, hsing, hap]
        rfl
    · have hiP : i = P.length := by omega
      subst hiP
      rw [List.take_length] at hled
      rw [hled, Option.bind_some] at hdo
      dsimp only at hdo
      have hQl : Q.length = P.length := by omega
      have rown : ∀ j, r.own j → j < u.heap.size := fun j hj => hqo.1.own_lt hj
      refine H.nw' fun u2 K e2 => ?_
      simp only [base, List.cons_append, List.nil_append] at K
      refine K.st' 4 rfl (by simp) fun u3 K e3 => ?_
      simp only [List.set_cons_zero, List.set_cons_succ] at K
      refine K.st' 4 rfl (by simp) fun u4 K e4 => ?_
      simp only [List.set_cons_zero, List.set_cons_succ] at K
      have noR : ∀ j, r.own j → ¬ j = u.heap.size := fun j hj e => by have := rown j hj; omega
      have qv4 : QV u4 r Q := ⟨hqo.v.1, ((hqo.v.keep e2).2.keepF e3 noR).keepF e4 noR⟩
      refine Join.intro ?_
      have fin : ∀ {u3 : World}, Hn w u3 [(w.heap.size, [Slc.v sl, .bool p.cl], 86), (w2.heap.size, [.string a, Slc.v s, .string d], 63), (w3.heap.size, mrow m, 23), (w4.heap.size, [Slc.v nilS, .bool false], 86), (u.heap.size, ptrow (curS p.L p.bg), 43)] → QV u3 r Q →
          S38J1 w w2 w4 (r, ((P.length : Nat) : Int)) u (fun r e w1 => RDo sl w w1 (doP p (bl a) (bl d) L m) r e) () u3 := by
        intro u3 K hqv
        unfold S38J1
        simp only [add_lit, Nat.zero_add]
        refine K.ld 1 rfl rfl ?_
        iterate 2 refine K.ld 4 rfl rfl ?_
        refine (r_parts (here := curS p.L p.bg) hqv (by omega)).mono ?_
        rintro r163 u4 ⟨svt, e4⟩
        have K := K.keep e4
        generalize hT : partsF (bl a) Q (curS p.L p.bg) = T at hdo svt
        have hT5 : T.length ≤ 5 := by
          rw [← hT]
          unfold partsF
          repeat' split
          all_goals simp
        refine K.ld 0 rfl rfl ?_
        show Br (decide (IntKind.i64.wrap (((sl.len : Nat) : Int) + ((r163.len : Nat) : Int)) > 8192)) _ _
        rw [hlen, svt.1, i64_id (by omega)]
        refine Br.dec (fun hh => ?_) fun hh => ?_
        · rw [if_neg (by omega)] at hdo
          exact bad (Hn.left (L := base) (M := [_]) K) hdo
        rw [if_pos (by omega)] at hdo
        have hsl : SV u4 sl p.L := h.keep K.ext
        have K := K.drew
        have e4d := (Ext.refl (fun _ => False) u4).drew
        have svt := svt.keep e4d
        have hsl := hsl.keep e4d
        generalize u4.drew = u5 at K svt hsl e4d ⊢
        have K5 := K
        refine ⟨fun v' => Blk v' w.heap.size ([Slc.v sl, .bool p.cl] : List Value).toArray 86 ∧ Blk v' w2.heap.size ([.string a, Slc.v s, .string d] : List Value).toArray 63, ⟨K.get 0 rfl, K.get 1 rfl⟩, ?_⟩
        refine LdS.of (fun v' h' => h'.1) rfl (LdS.of (fun v' h' => h'.1) rfl ?_)
        refine (Hn.start u5).nw (cs := []) fun u6 K6 => ?_
        have K := K.keep K6.ext
        refine ⟨⟨K.get 0 rfl, K.get 1 rfl⟩, ?_⟩
        have row0 : Row u6 (rowS u5.heap.size 0) 67 7 [] := ⟨by simp, .inr ⟨_, #[], rfl, K6.get 0 rfl, Nat.le_refl _, by simp, by simp⟩⟩
        obtain ⟨x1, u7, r1, r2, r3, r4, r5⟩ := elSg.app0 (ty := 64) (by decide) row0 rfl (hsl.keep K6.ext).2 (sgs_one p.L) (by omega) (by omega)
        have K := K.keep r4
        refine ⟨x1, u7, r1, ⟨K.get 0 rfl, K.get 1 rfl⟩, ?_⟩
        have s6 := K6.size
        have x1o : ∀ j, x1.own j → u5.heap.size ≤ j := fun j hj => (r5 j hj).elim (fun hj => by obtain ⟨a', ha, rfl⟩ := hj; cases ha; exact Nat.le_refl _) fun hj => by omega
        have svt7 := (svt.keep K6.ext).keep r4
        obtain ⟨x2, u8, q1, q2, q3, q4, q5⟩ := elSg.app (ty := 64) r2 svt7.2 (sgs_one T) (by have := svt7.1; omega) (by have := svt7.1; omega)
        have s7 := r4.size
        have K8 := K.other q4 fun j hj => ⟨by have := x1o j hj; have := K5.size; omega, fun hm => by have := K5.all_lt hm; have := x1o j hj; omega⟩
        refine ⟨x2, u8, q1, ⟨K8.get 0 rfl, K8.get 1 rfl⟩, ?_⟩
        have sv8 : SV u8 x2 (p.L ++ T) := SV.row (by rw [sgs_app]; exact q2)
        have l4 := K5.lt 3 rfl
        have x2o : ∀ j, x2.own j → j ≠ w4.heap.size := fun j hj => (q5 j hj).elim (fun hj => by have := x1o j hj; omega) fun hj => by omega
        have out : ∀ (c : Bool), c = (p.cl || clipN (bl a)) → Sh.St u8 ⟨w4.heap.size, 0, none⟩ (Slc.v x2) fun v1 => Sh.St v1 ⟨w4.heap.size, 1, none⟩ (.bool c) fun v2 =>
            Ld v2 ⟨w4.heap.size, 0, none⟩ Slc.v fun x => Ld v2 ⟨w4.heap.size, 1, none⟩ Value.bool fun y => RDo sl w v2 (doP p (bl a) (bl d) L m) (x, y) 0 := by
          intro c hc
          refine K8.st' 3 rfl (by simp) fun v1 K1 e1 => ?_
          simp only [List.set_cons_zero, List.set_cons_succ] at K1
          refine K1.st' 3 rfl (by simp) fun v2 K2 e2 => ?_
          simp only [List.set_cons_zero, List.set_cons_succ] at K2
          refine K2.ld 3 rfl rfl (K2.ld 3 rfl rfl ?_)
          rw [hdo]
          exact ⟨rfl, (sv8.keepF e1 fun j hj e => x2o j hj e).keepF e2 fun j hj e => x2o j hj e, hc, K2.ext, .inr fun j hj => ⟨by have := K5.size; have := (q5 j hj).elim (x1o j) fun hj => (by omega : u5.heap.size ≤ j); omega, by have := q2.own_lt hj; have := e1.size; have := e2.size; omega⟩⟩
        cases hcl : p.cl with
        | true => exact Br.t rfl (out true (by rw [hcl]; rfl))
        | false =>
          refine Br.f rfl (LdS.of (fun v' h' => h'.2) rfl (BrB (fun q => out true ?_) fun nq => LdS.of (fun v' h' => h'.2) rfl ?_))
          · rw [hcl]
            exact (decide_eq_true (.inl q)).symm
          · have nq : ¬ bl a = [87] := nq
            have e : (a.toList == (⟨#[87, 42]⟩ : ByteArray).toList) = decide (bl a = [87, 42]) := eqB _ _
            rw [e]
            refine out _ ?_
            rw [hcl, Bool.false_or]
            unfold clipN
            by_cases q2 : bl a = [87, 42]
            · rw [decide_eq_true q2, decide_eq_true (.inr q2)]
            · rw [decide_eq_false q2, decide_eq_false fun hh => hh.elim nq q2]
      refine K.ld 0 rfl rfl ?_
      show Br (decide (((sl.len : Nat) : Int) > 0)) _ _
      rw [hlen]
      refine Br.dec (fun hp => K.ld 0 rfl rfl ?_) fun hz => ?_
      · have hne : p.L ≠ [] := fun e => by rw [e] at hp; simp at hp
        refine (r_current (h.keep K.ext) hne (by omega)).mono ?_
        rintro r202 u5 ⟨hr, e5⟩
        rw [← hbg] at hr
        subst hr
        have K := K.keep e5
        refine K.st' 4 rfl (by simp) fun u6 K e6 => ?_
        simp only [List.set_cons_zero, List.set_cons_succ] at K
        refine K.st' 4 rfl (by simp) fun u7 K e7 => ?_
        simp only [List.set_cons_zero, List.set_cons_succ] at K
        exact fin K ⟨qv4.1, ((qv4.keep e5).2.keepF e6 noR).keepF e7 noR⟩
      · have hnil : p.L = [] := List.eq_nil_of_length_eq_zero (by omega)
        have hcur : curS p.L p.bg = (0, 0) := by rw [hnil]; rfl
        rw [hcur] at fin
        exact fin K qv4
  refine H.ld 0 rfl rfl ?_
  show Br (((sl.len : Nat) : Int) == 0) _ _
  rw [hlen]
  refine Br.eq (fun hz => ?_) fun hz => main H fun hh => hz (by rw [hh.2.2]; rfl)
  have hnil : p.L = [] := List.eq_nil_of_length_eq_zero (by omega)
  refine H.ld 1 rfl rfl (BrNB (fun nm => H.ld 1 rfl rfl (BrNB (fun nre => ?_) fun qre => main H fun hh => hh.2.1 qre)) fun qm => main H fun hh => hh.1 qm)
  exact bad H (by unfold doP; rw [if_neg (fun hn => hn hk), if_neg (fun hn => hn hck), if_pos ⟨nm, nre, hnil⟩])
end
end Pat
end Go.Proofs.YtjbeembbnkmpeaaDoor

/- Paths: the reference's Paint and Box. Conditions: sizes. -/
namespace Go.Proofs.YtjbeembbnkmpeaaDoor
namespace Pat
open Sh Mat Fix Opr
set_option linter.unusedVariables false
set_option linter.unusedSimpArgs false
set_option maxRecDepth 8000
set_option maxHeartbeats 8000000
section
variable {w0 w w' w1 : World} {s sl ns : Slc} {L : List Ob} {l : List Int} {m : Mx} {a d : ByteArray} {p : Pa} {g : G} {M : List Sg}
theorem r_how (hk : bl a ∈ ten) (w : World) : C97 a w fun r w1 => r = (howN (bl a)).1 ∧ w1 = w := by
  refine T97 _ _ _ ?_
  unfold S97
  simp only [ten, List.mem_cons, List.not_mem_nil, or_false] at hk
  have e : ∀ b : ByteArray, (a.toList == b.toList) = decide (bl a = bl b) := fun b => eqB a b
  simp only [e]
  refine Join.intro ?_
  unfold S97J2 S97J1
  simp only [e]
  rcases hk with q | q | q | q | q | q | q | q | q | q <;> rw [q] <;> first
    | exact ⟨rfl, rfl⟩
    | exact ⟨rfl, trivial⟩
    | (show Join _ _; refine Join.intro ?_; first | exact ⟨rfl, rfl⟩ | exact ⟨rfl, trivial⟩)
theorem hn_stT {K : List (Nat × List Value × TypeId)} {b2 : Nat} {t2 : TypeId} {y : Pt} {zs : List Value} {X : World → Prop} (H : Hn w0 w K) (j : Nat) (h2 : K[j]? = some (b2, zs, t2)) (hz : zs.length = 12)
    (k : ∀ w2, Hn w0 w2 (K.set j (b2, Sig.cells LPt y, t2)) → Ext (· = b2) w w2 → X w2) : StT ⟨b2, 0, none⟩ 0 LPt y w X := by
  refine StT.blk (pre := []) (post := []) (ts := LPt) (x := y) (by rw [List.append_nil]; exact H.get j h2) rfl hz fun w7 g7 e7 => ?_
  rw [List.append_nil] at g7
  exact k w7 (H.set j h2 (H.h.upd j (arr_get h2) g7 e7 (.inr (H.ge j h2)))) e7
theorem hn_ldT {K : List (Nat × List Value × TypeId)} {b2 : Nat} {t2 : TypeId} {y : Pt} {X : Pt → Prop} (H : Hn w0 w K) (j : Nat) (h2 : K[j]? = some (b2, Sig.cells LPt y, t2)) (k : X y) : LdT w ⟨b2, 0, none⟩ 0 LPt X :=
  LdT.blk (pre := []) (post := []) (ts := LPt) (x := y) (by rw [List.append_nil]; exact H.get j h2) rfl k
/-- What the reference's Paint gives. -/
def RPt (sl : Slc) (w w1 : World) (f k : C5) (q : PaR) (r : Slc × Bool) (t : Pt) (is : Bool) (e : Int) : Prop := ∃ sp, t = (if q.is = true then mkPt q.how sp f k else pt0) ∧ is = q.is ∧ e = q.e ∧ SV w1 sp q.L ∧ SV w1 r.1 q.p.L ∧ r.2 = q.p.cl ∧ Ext (fun _ => False) w w1 ∧ (r.1 = sl ∨ r.1 = nilS)
attribute [local irreducible] Ld Sh.St Nw Nn LdS LdT LdST StT
theorem r_paint (h : SV w sl p.L) (hfew : p.L.length ≤ 8192) (ho : OV w s L) (hL : L.length ≤ 9223372036854775807) : C36 (sl, p.cl) (a, s, d) g w fun r t is e w1 => RPt sl w w1 (fillG g) (strkG g) (paintP p (bl a) (bl d) L) r t is e := by
  refine T36 (sl, p.cl) (a, s, d) g _ _ ?_
  unfold S36
  have hlen := h.1
  refine (Hn.start w).nw fun w2 H => ?_
  refine H.nw fun w3 H => ?_
  refine H.nw fun w4 H => ?_
  refine H.nw fun w5 H => ?_
  refine H.nw fun w6 H => ?_
  simp only [List.cons_append, List.nil_append, add_lit, Nat.zero_add] at H ⊢
  let base : List (Nat × List Value × TypeId) := [(w.heap.size, [Slc.v sl, .bool p.cl], 86), (w2.heap.size, [.string a, Slc.v s, .string d], 63), (w3.heap.size, Sig.cells LG g, 30), (w4.heap.size, [Slc.v nilS, .bool false], 86), (w5.heap.size, Sig.cells LPt pt0, 76)]
  have H : Hn w w6 base := H
  have g3 := H.ge 3 rfl
  have g4 := H.ge 4 rfl
  have bad : ∀ {v : World} {e : Int}, Hn w v base → paintP p (bl a) (bl d) L = ⟨e, 0, [], false, p⟩ → Ld v ⟨w.heap.size, 0, none⟩ Slc.v fun x => Ld v ⟨w.heap.size, 1, none⟩ Value.bool fun y => Sh.St v ⟨w4.heap.size, 0, none⟩ (Slc.v x) fun v1 => Sh.St v1 ⟨w4.heap.size, 1, none⟩ (.bool y) fun v2 =>
      StT ⟨w5.heap.size, 0, none⟩ 0 LPt pt0 v2 fun v3 => Ld v3 ⟨w4.heap.size, 0, none⟩ Slc.v fun x2 => Ld v3 ⟨w4.heap.size, 1, none⟩ Value.bool fun y2 => LdT v3 ⟨w5.heap.size, 0, none⟩ 0 LPt fun t => RPt sl w v3 (fillG g) (strkG g) (paintP p (bl a) (bl d) L) (x2, y2) t false e := by
    intro v e H hd
    refine H.ld 0 rfl rfl (H.ld 0 rfl rfl ?_)
    iterate 2 (refine H.st 3 rfl (by simp) fun _ H => ?_; simp only [base, List.set_cons_zero, List.set_cons_succ] at H)
    refine hn_stT H 4 rfl rfl fun v3 H _ => ?_
    simp only [List.set_cons_zero, List.set_cons_succ] at H
    refine H.ld 3 rfl rfl (H.ld 3 rfl rfl (hn_ldT H 4 rfl ?_))
    rw [hd]
    exact ⟨nilS, rfl, rfl, rfl, SV.nil _, h.keep H.ext, rfl, H.ext, .inl rfl⟩
  refine H.ld 1 rfl rfl ?_
  refine (r_paints a _).mono ?_
  rintro r w7 ⟨rfl, rfl⟩
  by_cases hk : bl a ∈ ten
  rotate_left
  · rw [decide_eq_false hk]
    exact Br.t rfl (bad H (by unfold paintP; rw [if_pos hk]))
  rw [decide_eq_true hk]
  refine Br.f rfl ?_
  iterate 3 refine H.ld 1 rfl rfl ?_
  refine (r_check (ho.keep H.ext) hL).mono ?_
  rintro r w8 ⟨rfl, e8⟩
  have H := H.keep e8
  refine Br.ne (fun hc => bad H (by unfold paintP; rw [if_neg (fun hn => hn hk), if_pos hc])) fun hck => ?_
  have H := H.drew
  generalize w8.drew = u at H ⊢
  refine ⟨fun v' => Blk v' w.heap.size ([Slc.v sl, .bool p.cl] : List Value).toArray 86 ∧ Blk v' w2.heap.size ([.string a, Slc.v s, .string d] : List Value).toArray 63, ⟨H.get 0 rfl, H.get 1 rfl⟩, ?_⟩
  refine LdS.of (fun v' h' => h'.1) rfl (LdS.of (fun v' h' => h'.2) rfl ?_)
  refine (r_how hk u).mono ?_
  rintro r54 u2 ⟨rfl, rfl⟩
  refine ⟨⟨H.get 0 rfl, H.get 1 rfl⟩, Join.intro ?_⟩
  have h8 := how_8
  have bnd : ∀ nm ∈ ten, 0 ≤ (howN nm).1 ∧ (howN nm).1 ≤ 7 := by decide
  have hb := bnd _ hk
  have main : ∀ (LL : List Sg) (z : Slc) (v : World), Hn w v base → (∀ v', Ext (fun j => j = w4.heap.size ∨ j = w5.heap.size) v v' → SV v' z LL) → (if (howN (bl a)).2 = true ∧ p.L ≠ [] then p.L ++ [clS] else p.L) = LL →
      S36J1 w w3 w4 w5 (howN (bl a)).1 (fun r t is e w1 => RPt sl w w1 (fillG g) (strkG g) (paintP p (bl a) (bl d) L) r t is e) z v := by
    intro LL z v H hsv hLL
    have hzl := (hsv v (Ext.refl _ v)).1
    have hpq : paintP p (bl a) (bl d) L = if LL = [] ∨ (howN (bl a)).1 + (if p.cl = true then 8 else 0) = 0 then ⟨0, 0, [], false, pa0⟩ else ⟨0, (howN (bl a)).1 + (if p.cl = true then 8 else 0), LL, true, pa0⟩ := by
      unfold paintP
      rw [if_neg (fun hn => hn hk), if_neg (fun hn => hn hck), hLL]
    unfold S36J1
    simp only [add_lit, Nat.zero_add]
    have outE : LL = [] ∨ (howN (bl a)).1 + (if p.cl = true then 8 else 0) = 0 → Sh.St v ⟨w4.heap.size, 0, none⟩ (Slc.v nilS) fun v1 => Sh.St v1 ⟨w4.heap.size, 1, none⟩ (.bool false) fun v2 =>
        StT ⟨w5.heap.size, 0, none⟩ 0 LPt pt0 v2 fun v3 => Ld v3 ⟨w4.heap.size, 0, none⟩ Slc.v fun x2 => Ld v3 ⟨w4.heap.size, 1, none⟩ Value.bool fun y2 => LdT v3 ⟨w5.heap.size, 0, none⟩ 0 LPt fun t => RPt sl w v3 (fillG g) (strkG g) (paintP p (bl a) (bl d) L) (x2, y2) t false 0 := by
      intro hh
      iterate 2 (refine H.st 3 rfl (by simp) fun _ H => ?_; simp only [base, List.set_cons_zero, List.set_cons_succ] at H)
      refine hn_stT H 4 rfl rfl fun v3 H _ => ?_
      simp only [List.set_cons_zero, List.set_cons_succ] at H
      refine H.ld 3 rfl rfl (H.ld 3 rfl rfl (hn_ldT H 4 rfl ?_))
      rw [hpq, if_pos hh]
      exact ⟨nilS, rfl, rfl, rfl, SV.nil _, SV.nil _, rfl, H.ext, .inr rfl⟩
    have ordF : ∀ (hw : Int) (P : World → Prop → Prop), (howN (bl a)).1 + (if p.cl = true then 8 else 0) = hw → ¬ (LL = [] ∨ hw = 0) → (∀ v', Hn w v' [(w.heap.size, [Slc.v sl, .bool p.cl], 86), (w2.heap.size, [.string a, Slc.v s, .string d], 63), (w3.heap.size, Sig.cells LG g, 30), (w4.heap.size, [Slc.v nilS, .bool false], 86), (w5.heap.size, Sig.cells LPt pt0, 76)] → ∀ X : Prop, X → P v' X) →
        Sh.St v.drew ⟨w4.heap.size, 0, none⟩ (Slc.v nilS) fun v1 => Sh.St v1 ⟨w4.heap.size, 1, none⟩ (.bool false) fun v2 => P v2 (
        StT ⟨w5.heap.size, 0, none⟩ 0 LPt (mkPt hw z (fillG g) (strkG g)) v2 fun v3 => Ld v3 ⟨w4.heap.size, 0, none⟩ Slc.v fun x2 => Ld v3 ⟨w4.heap.size, 1, none⟩ Value.bool fun y2 => LdT v3 ⟨w5.heap.size, 0, none⟩ 0 LPt fun t => RPt sl w v3 (fillG g) (strkG g) (paintP p (bl a) (bl d) L) (x2, y2) t true 0) := by
      intro hw P hhw hne hP
      have H := H.drew
      refine H.st' 3 rfl (by simp) fun v1 H e1 => ?_
      simp only [base, List.set_cons_zero, List.set_cons_succ] at H
      refine H.st' 3 rfl (by simp) fun v2 H e2 => ?_
      simp only [base, List.set_cons_zero, List.set_cons_succ] at H
      refine hP v2 H _ (hn_stT H 4 rfl rfl fun v3 H e3 => ?_)
      simp only [List.set_cons_zero, List.set_cons_succ] at H
      refine H.ld 3 rfl rfl (H.ld 3 rfl rfl (hn_ldT H 4 rfl ?_))
      rw [hpq, hhw, if_neg hne]
      refine ⟨z, rfl, rfl, rfl, hsv v3 ?_, SV.nil _, rfl, H.ext, .inr rfl⟩
      have m1 : ∀ {x y : World} {k : Nat}, Ext (· = k) x y → (k = w4.heap.size ∨ k = w5.heap.size) → Ext (fun j => j = w4.heap.size ∨ j = w5.heap.size) x y := fun e hk => e.mono fun j _ hj => hk.imp (fun h => Eq.trans hj h) fun h => Eq.trans hj h
      exact (((Ext.refl _ v).drew.tr (m1 e1 (.inl rfl))).tr (m1 e2 (.inl rfl))).tr (m1 e3 (.inr rfl))
    have gS : ∀ (c : Bool) (v' : World), Hn w v' [(w.heap.size, [Slc.v sl, .bool c], 86), (w2.heap.size, [.string a, Slc.v s, .string d], 63), (w3.heap.size, Sig.cells LG g, 30), (w4.heap.size, [Slc.v nilS, .bool false], 86), (w5.heap.size, Sig.cells LPt pt0, 76)] → ∀ X : Prop, X → Blk v' w3.heap.size (Sig.cells LG g).toArray 30 ∧ X := fun c v' H X x => ⟨H.get 2 rfl, x⟩
    have hlz : LL = [] ↔ ((z.len : Nat) : Int) = 0 := by
      rw [hzl]
      constructor
      · rintro rfl; rfl
      · intro hh; exact List.eq_nil_of_length_eq_zero (by omega)
    have tr2 : ∀ {A B : Prop}, True ∧ B → B := fun h => h.2
    refine H.ld 0 rfl rfl ?_
    cases hcl : p.cl with
    | true =>
      rw [hcl, if_pos rfl] at outE ordF
      refine Br.t rfl (Br.eq (fun hz => outE (.inl (hlz.2 hz))) fun hz => ?_)
      rw [i64_id (n := (howN (bl a)).1 + 8) (by omega)]
      refine Br.eq (fun hz => outE (.inr hz)) fun hz2 => ?_
      have ne : ¬ (LL = [] ∨ (howN (bl a)).1 + 8 = 0) := fun hh => hh.elim (fun e => hz (hlz.1 e)) hz2
      refine ⟨fun v' => Blk v' w3.heap.size (Sig.cells LG g).toArray 30, H.drew.get 2 rfl, ?_⟩
      iterate 10 refine LdS.of (fun w' h' => h') rfl ?_
      have o1 := ordF _ (fun _ X => X) rfl ne fun _ _ _ x => x
      have o2 := ordF _ (fun v' X => Blk v' w3.heap.size (Sig.cells LG g).toArray 30 ∧ X) rfl ne (gS _)
      exact ⟨⟨H.drew.get 2 rfl, o1, o2⟩, o1⟩
    | false =>
      rw [hcl, if_neg (by decide), Int.add_zero] at outE ordF
      refine Br.f rfl (Br.eq (fun hz => outE (.inl (hlz.2 hz))) fun hz => ?_)
      refine Br.eq (fun hz => outE (.inr hz)) fun hz2 => ?_
      have ne : ¬ (LL = [] ∨ (howN (bl a)).1 = 0) := fun hh => hh.elim (fun e => hz (hlz.1 e)) hz2
      refine ⟨fun v' => Blk v' w3.heap.size (Sig.cells LG g).toArray 30, H.drew.get 2 rfl, ?_⟩
      iterate 10 refine LdS.of (fun w' h' => h') rfl ?_
      have o1 := ordF _ (fun _ X => X) rfl ne fun _ _ _ x => x
      have o2 := ordF _ (fun v' X => Blk v' w3.heap.size (Sig.cells LG g).toArray 30 ∧ X) rfl ne (gS _)
      exact ⟨⟨H.drew.get 2 rfl, o1, o2⟩, o1⟩
  have plain : ¬ ((howN (bl a)).2 = true ∧ p.L ≠ []) → S36J1 w w3 w4 w5 (howN (bl a)).1 (fun r t is e w1 => RPt sl w w1 (fillG g) (strkG g) (paintP p (bl a) (bl d) L) r t is e) sl u2 := fun hh =>
    main p.L sl u2 H (fun v' e => h.keep (Ext.new H.ext e fun j hj => by omega)) (if_neg hh)
  rw [hlen]
  refine Br.dec (fun hp => ?_) fun hz => plain fun hh => hh.2 (List.eq_nil_of_length_eq_zero (by omega))
  have hne : p.L ≠ [] := fun e => by rw [e] at hp; simp at hp
  have close : (howN (bl a)).2 = true → Nw u2 (.cells #[] 67) fun v1 => Rn Tryd.prog (Builtin.append_ #[64, 64] 64 #[Slc.v ((⟨some ⟨u2.heap.size, 0, none⟩, 0, 0⟩ : Slc)), Slc.v sl]) v1 Slc.v fun (x : Slc) v2 =>
      Nw v2 (.cells (sgrow clS).toArray 67) fun v3 => Rn Tryd.prog (Builtin.append_ #[64, 64] 64 #[Slc.v x, Slc.v ((⟨some ⟨v2.heap.size, 0, none⟩, 1, 1⟩ : Slc))]) v3 Slc.v fun (x' : Slc) v4 =>
      S36J1 w w3 w4 w5 (howN (bl a)).1 (fun r t is e w1 => RPt sl w w1 (fillG g) (strkG g) (paintP p (bl a) (bl d) L) r t is e) x' v4 := by
    intro hc
    refine (Hn.start u2).nw (cs := []) fun v1 K1 => ?_
    have row0 : Row v1 (rowS u2.heap.size 0) 67 7 [] := ⟨by simp, .inr ⟨_, #[], rfl, K1.get 0 rfl, Nat.le_refl _, by simp, by simp⟩⟩
    obtain ⟨x, v2, r1, r2, r3, r4, r5⟩ := elSg.app0 (ty := 64) (by decide) row0 rfl (h.keep (H.ext.tr K1.ext)).2 (sgs_one p.L) (by omega) (by omega)
    refine ⟨x, v2, r1, ?_⟩
    have s1 := K1.size
    have s2 := r4.size
    have xo : ∀ j, x.own j → u2.heap.size ≤ j := fun j hj => (r5 j hj).elim (fun hj => by obtain ⟨a', ha, rfl⟩ := hj; cases ha; exact Nat.le_refl _) fun hj => by omega
    refine (Hn.start v2).nw (cs := sgrow clS) fun v3 K3 => ?_
    obtain ⟨x', v4, q1, q2, q3, q4, q5⟩ := elSg.app1 (ty := 64) (r2.keep K3.ext fun _ _ e => e) (K3.get 0 rfl) rfl (sg_one clS) (by omega) (by omega)
    refine ⟨x', v4, q1, ?_⟩
    have s3 := K3.size
    have Hv := ((H.keep K1.ext).keep r4).keep K3.ext
    have lt3 := H.lt 3 rfl
    have lt4 := H.lt 4 rfl
    have Hv := Hv.other q4 fun j hj => ⟨by have := xo j hj; have := H.size; omega, fun hm => by have := H.all_lt hm; have := xo j hj; omega⟩
    refine main (p.L ++ [clS]) x' v4 Hv (fun v' e => ?_) (if_pos ⟨hc, hne⟩)
    refine (SV.row (t := 67) (by rw [sgs_app, sgs_sing]; exact q2)).keepF e fun j hj hh => ?_
    have : u2.heap.size ≤ j := (q5 j hj).elim (xo j) fun hj => by omega
    omega
  have hw : ∀ l : By, bl a = l → (howN (bl a)).2 = (howN l).2 := fun l q => by rw [q]
  refine H.ld 1 rfl rfl (BrB (fun q => close (by rw [q]; rfl)) fun n1 => H.ld 1 rfl rfl (BrB (fun q => close (by rw [q]; rfl)) fun n2 => H.ld 1 rfl rfl (BrB (fun q => close (by rw [q]; rfl)) fun n3 => plain fun hh => ?_)))
  have no : ∀ nm ∈ ten, (howN nm).2 = true → nm = [115] ∨ nm = [98] ∨ nm = [98, 42] := by decide
  rcases no _ hk hh.1 with q | q | q
  · exact n1 q
  · exact n2 q
  · exact n3 q
end
end Pat
end Go.Proofs.YtjbeembbnkmpeaaDoor

/- The formulas of 1 functions of the program, written by program (gen.py); the kernel checks each. No condition. -/
namespace Go.Proofs.YtjbeembbnkmpeaaDoor
open Sh
set_option linter.unusedVariables false
set_option maxRecDepth 100000

def C6 (l1 : Slc) (m2 : Int × Int × Int × Int × Int × Int) (x3 : Int) (y4 : Int) (vw5 : Int) (h6 : Int) (which7 : Int) (w : World) (R : Bool → World → Prop) : Prop :=
  Calls Tryd.prog 6 #[Slc.v l1, .agg #[.int .i64 (m2.1), .int .i64 (m2.2.1), .int .i64 (m2.2.2.1), .int .i64 (m2.2.2.2.1), .int .i64 (m2.2.2.2.2.1), .int .i64 (m2.2.2.2.2.2)], .int .i64 x3, .int .i64 y4, .int .i64 vw5, .int .i64 h6, .int .i64 which7] w fun e w' => ∃ r0 : Bool, e = .returned (.bool r0) ∧ R r0 w'
theorem C6.mono {l1 : Slc} {m2 : Int × Int × Int × Int × Int × Int} {x3 : Int} {y4 : Int} {vw5 : Int} {h6 : Int} {which7 : Int} {w : World} {R R' : Bool → World → Prop} (h : C6 l1 m2 x3 y4 vw5 h6 which7 w R) (hr : ∀ r0 w', R r0 w' → R' r0 w') : C6 l1 m2 x3 y4 vw5 h6 which7 w R' :=
  Calls.mono h fun _ _ ⟨r0, he, hR⟩ => ⟨r0, he, hr _ _ hR⟩

def S6J1 (s59 : Option Addr × Bool) (r158 : Option Addr) (x234 : ByteArray) (one235 : ByteArray) (R : Bool → World → Prop) (s247 : Unit) (vw248 : World) : Prop :=
  C42 one235 (⟨none, 0, 0⟩ : Slc) vw248 fun r249 vw250 =>
    C30 s59.1 (r249.1, r249.2.1, r249.2.2) ((0, 0, 0, 0, 0, 0, 0, 0, 0, 0, (⟨none, 0, 0⟩ : Slc), 0, 0, 0, 0, 0, 0, 0, 0, 0, 0, 0, 0, 0, 0, 0, 0, 0, (⟨#[]⟩ : ByteArray), 0) : TyA29) vw250 fun r251 r252 r253 vw254 =>
      Nw vw254 (.cells #[.int .i64 0, Slc.v ((⟨none, 0, 0⟩ : Slc)), .int .i64 0, .int .i64 0, .int .i64 0, .int .i64 0, .int .i64 0, .int .i64 0, .int .i64 0, .int .i64 0, .int .i64 0, .int .i64 0] 76) fun vw255 =>
      StT (⟨vw254.heap.size, 0, none⟩ : Addr) 0 LiA75 r251 vw255 fun vw256 =>
      C42 x234 (⟨none, 0, 0⟩ : Slc) vw256 fun r257 vw258 =>
        C30 r158 (r257.1, r257.2.1, r257.2.2) ((0, 0, 0, 0, 0, 0, 0, 0, 0, 0, (⟨none, 0, 0⟩ : Slc), 0, 0, 0, 0, 0, 0, 0, 0, 0, 0, 0, 0, 0, 0, 0, 0, 0, (⟨#[]⟩ : ByteArray), 0) : TyA29) vw258 fun r259 r260 r261 vw262 =>
          Nw vw262 (.cells #[.int .i64 0, Slc.v ((⟨none, 0, 0⟩ : Slc)), .int .i64 0, .int .i64 0, .int .i64 0, .int .i64 0, .int .i64 0, .int .i64 0, .int .i64 0, .int .i64 0, .int .i64 0, .int .i64 0] 76) fun vw263 =>
          StT (⟨vw262.heap.size, 0, none⟩ : Addr) 0 LiA75 r259 vw263 fun vw264 =>
          Br r252 (Br r260 (Br (r253 == 0) (Br (r261 == 0) (LdT vw264 (⟨vw254.heap.size, 0, none⟩ : Addr) 0 LiA75 fun (x265 : TyA75) =>
                  LdT vw264 (⟨vw262.heap.size, 0, none⟩ : Addr) 0 LiA75 fun (x266 : TyA75) =>
                  C37 x265 x266 vw264 fun r267 vw268 =>
                    R r267 vw268) (R false vw264)) (R false vw264)) (R false vw264)) (R false vw264)
def S6J2 (w : World) (l1 : Slc) (x3 : Int) (y4 : Int) (vw5 : Int) (h6 : Int) (which7 : Int) (R : Bool → World → Prop) (s59 : Option Addr × Bool) (vw60 : World) : Prop :=
  ∃ vS61 : World → Prop, vS61 vw60.drew ∧ LdS vS61 (⟨w.heap.size, 0, none⟩ : Addr) (Value.int .i64) fun (x62 : Int) =>
  LdS vS61 ((⟨w.heap.size, 0, none⟩ : Addr).add 1) (Value.int .i64) fun (x63 : Int) =>
  LdS vS61 ((⟨w.heap.size, 0, none⟩ : Addr).add 2) (Value.int .i64) fun (x64 : Int) =>
  LdS vS61 ((⟨w.heap.size, 0, none⟩ : Addr).add 3) (Value.int .i64) fun (x65 : Int) =>
  LdS vS61 ((⟨w.heap.size, 0, none⟩ : Addr).add 4) (Value.int .i64) fun (x66 : Int) =>
  LdS vS61 ((⟨w.heap.size, 0, none⟩ : Addr).add 5) (Value.int .i64) fun (x67 : Int) =>
  ∃ le68 : World → World → Prop, ∃ B69 : World → Prop, B69 vw60.drew ∧ ∃ G70 : Slc → World → Prop, (∀ (x71 : Slc) (vw72 : World) (vw73 : World), le68 vw72 vw73 → G70 x71 vw72 → G70 x71 vw73) ∧
  ∃ G74 : Slc → World → Prop, (∀ (x75 : Slc) (vw76 : World) (vw77 : World), le68 vw76 vw77 → G74 x75 vw76 → G74 x75 vw77) ∧
  ∃ G78 : Slc → World → Prop, (∀ (x79 : Slc) (vw80 : World) (vw81 : World), le68 vw80 vw81 → G78 x79 vw80 → G78 x79 vw81) ∧
  ∃ G82 : (ByteArray × Slc × ByteArray) → World → Prop, (∀ (x83 : ByteArray × Slc × ByteArray) (vw84 : World) (vw85 : World), le68 vw84 vw85 → G82 x83 vw84 → G82 x83 vw85) ∧
  ∃ G86 : Slc → World → Prop, (∀ (x87 : Slc) (vw88 : World) (vw89 : World), le68 vw88 vw89 → G86 x87 vw88 → G86 x87 vw89) ∧
  ∃ G90 : (ByteArray × Slc × ByteArray) → World → Prop, (∀ (x91 : ByteArray × Slc × ByteArray) (vw92 : World) (vw93 : World), le68 vw92 vw93 → G90 x91 vw92 → G90 x91 vw93) ∧
  ∃ G94 : Slc → World → Prop, (∀ (x95 : Slc) (vw96 : World) (vw97 : World), le68 vw96 vw97 → G94 x95 vw96 → G94 x95 vw97) ∧
  ∃ G98 : (ByteArray × Slc × ByteArray) → World → Prop, (∀ (x99 : ByteArray × Slc × ByteArray) (vw100 : World) (vw101 : World), le68 vw100 vw101 → G98 x99 vw100 → G98 x99 vw101) ∧
  ∃ G102 : Slc → World → Prop, (∀ (x103 : Slc) (vw104 : World) (vw105 : World), le68 vw104 vw105 → G102 x103 vw104 → G102 x103 vw105) ∧
  ((∀ (vw106 : World), vS61 vw106 → B69 vw106 → Nw vw106 (.cells #[] 63) fun vw107 =>
    vS61 vw107 ∧ B69 vw107 ∧ le68 vw106 vw107 ∧ ∃ x108 : Slc, (Slc.v ((⟨some ⟨vw106.heap.size, 0, none⟩, 0, 0⟩ : Slc)) : Value) = Slc.v x108 ∧ G70 x108 vw107) ∧
  (∀ (vw109 : World), vS61 vw109 → B69 vw109 → ∀ (x110 : Slc), G70 x110 vw109 → Rn Tryd.prog (Builtin.append_ #[84, 84] 84 #[Slc.v x110, Slc.v l1]) vw109 Slc.v fun (x111 : Slc) vw112 =>
    vS61 vw112 ∧ B69 vw112 ∧ le68 vw109 vw112 ∧ ∃ x113 : Slc, (Slc.v x111 : Value) = Slc.v x113 ∧ G74 x113 vw112) ∧
  (∀ (vw114 : World), vS61 vw114 → B69 vw114 → Nw vw114 (.cells #[.int .i64 x3, .int .i64 y4] 2) fun vw115 =>
    vS61 vw115 ∧ B69 vw115 ∧ le68 vw114 vw115 ∧ ∃ x116 : Slc, (Slc.v ((⟨some ⟨vw114.heap.size, 0, none⟩, 2, 2⟩ : Slc)) : Value) = Slc.v x116 ∧ G78 x116 vw115) ∧
  (∀ (vw117 : World), vS61 vw117 → B69 vw117 → ∀ (x118 : Slc), G78 x118 vw117 → C42 (⟨#[109]⟩ : ByteArray) x118 vw117 fun r119 vw120 =>
      vS61 vw120 ∧ B69 vw120 ∧ le68 vw117 vw120 ∧ ∃ x121 : ByteArray × Slc × ByteArray, (.agg #[.string r119.1, Slc.v r119.2.1, .string r119.2.2] : Value) = .agg #[.string x121.1, Slc.v x121.2.1, .string x121.2.2] ∧ G82 x121 vw120) ∧
  (∀ (vw122 : World), vS61 vw122 → B69 vw122 → Nw vw122 (.cells #[.int .i64 (IntKind.i64.wrap (x3 + vw5)), .int .i64 y4] 2) fun vw123 =>
    vS61 vw123 ∧ B69 vw123 ∧ le68 vw122 vw123 ∧ ∃ x124 : Slc, (Slc.v ((⟨some ⟨vw122.heap.size, 0, none⟩, 2, 2⟩ : Slc)) : Value) = Slc.v x124 ∧ G86 x124 vw123) ∧
  (∀ (vw125 : World), vS61 vw125 → B69 vw125 → ∀ (x126 : Slc), G86 x126 vw125 → C42 (⟨#[108]⟩ : ByteArray) x126 vw125 fun r127 vw128 =>
      vS61 vw128 ∧ B69 vw128 ∧ le68 vw125 vw128 ∧ ∃ x129 : ByteArray × Slc × ByteArray, (.agg #[.string r127.1, Slc.v r127.2.1, .string r127.2.2] : Value) = .agg #[.string x129.1, Slc.v x129.2.1, .string x129.2.2] ∧ G90 x129 vw128) ∧
  (∀ (vw130 : World), vS61 vw130 → B69 vw130 → Nw vw130 (.cells #[.int .i64 (IntKind.i64.wrap (x3 + vw5)), .int .i64 (IntKind.i64.wrap (y4 + h6))] 2) fun vw131 =>
    vS61 vw131 ∧ B69 vw131 ∧ le68 vw130 vw131 ∧ ∃ x132 : Slc, (Slc.v ((⟨some ⟨vw130.heap.size, 0, none⟩, 2, 2⟩ : Slc)) : Value) = Slc.v x132 ∧ G94 x132 vw131) ∧
  (∀ (vw133 : World), vS61 vw133 → B69 vw133 → ∀ (x134 : Slc), G94 x134 vw133 → C42 (⟨#[108]⟩ : ByteArray) x134 vw133 fun r135 vw136 =>
      vS61 vw136 ∧ B69 vw136 ∧ le68 vw133 vw136 ∧ ∃ x137 : ByteArray × Slc × ByteArray, (.agg #[.string r135.1, Slc.v r135.2.1, .string r135.2.2] : Value) = .agg #[.string x137.1, Slc.v x137.2.1, .string x137.2.2] ∧ G98 x137 vw136) ∧
  (∀ (vw138 : World), vS61 vw138 → B69 vw138 → Nw vw138 (.cells #[.int .i64 x3, .int .i64 (IntKind.i64.wrap (y4 + h6))] 2) fun vw139 =>
    vS61 vw139 ∧ B69 vw139 ∧ le68 vw138 vw139 ∧ ∃ x140 : Slc, (Slc.v ((⟨some ⟨vw138.heap.size, 0, none⟩, 2, 2⟩ : Slc)) : Value) = Slc.v x140 ∧ G102 x140 vw139) ∧
  True) ∧
  (∀ (vw141 : World), vS61 vw141 → B69 vw141 → ∀ (x142 : Slc), G70 x142 vw141 → ∀ (x143 : Slc), G74 x143 vw141 → ∀ (x144 : Slc), G78 x144 vw141 → ∀ (x145 : ByteArray × Slc × ByteArray), G82 x145 vw141 → ∀ (x146 : Slc), G86 x146 vw141 → ∀ (x147 : ByteArray × Slc × ByteArray), G90 x147 vw141 → ∀ (x148 : Slc), G94 x148 vw141 → ∀ (x149 : ByteArray × Slc × ByteArray), G98 x149 vw141 → ∀ (x150 : Slc), G102 x150 vw141 → C42 (⟨#[108]⟩ : ByteArray) x150 vw141 fun r151 vw152 =>
      vS61 vw152 ∧ C42 (⟨#[104]⟩ : ByteArray) (⟨none, 0, 0⟩ : Slc) vw152 fun r153 vw154 =>
        vS61 vw154 ∧ Nw vw154 (.cells #[.string x145.1, Slc.v x145.2.1, .string x145.2.2, .string x147.1, Slc.v x147.2.1, .string x147.2.2, .string x149.1, Slc.v x149.2.1, .string x149.2.2, .string r151.1, Slc.v r151.2.1, .string r151.2.2, .string r153.1, Slc.v r153.2.1, .string r153.2.2] 63) fun vw155 =>
        vS61 vw155 ∧ Rn Tryd.prog (Builtin.append_ #[84, 84] 84 #[Slc.v x143, Slc.v ((⟨some ⟨vw154.heap.size, 0, none⟩, 5, 5⟩ : Slc))]) vw155 Slc.v fun (x156 : Slc) vw157 =>
        vS61 vw157 ∧ C41 x156 (x62, x63, x64, x65, x66, x67) vw157 fun r158 r159 vw160 =>
          Br (!s59.2) (R (s59.2 == r159) vw160) (Br (!r159) (R (s59.2 == r159) vw160) (C25 s59.1 vw160 fun r167 vw168 =>
                C25 r158 vw168 fun r169 vw170 =>
                  C28 r167 r169 vw170 fun r171 vw172 =>
                    Br (!r171) (R false vw172) (∃ le173 : World → World → Prop, ∃ B174 : World → Prop, B174 vw172.drew ∧ ∃ G175 : Slc → World → Prop, (∀ (x176 : Slc) (vw177 : World) (vw178 : World), le173 vw177 vw178 → G175 x176 vw177 → G175 x176 vw178) ∧
                      ∃ G179 : Addr → World → Prop, (∀ (x180 : Addr) (vw181 : World) (vw182 : World), le173 vw181 vw182 → G179 x180 vw181 → G179 x180 vw182) ∧
                      ∃ G183 : ByteArray → World → Prop, (∀ (x184 : ByteArray) (vw185 : World) (vw186 : World), le173 vw185 vw186 → G183 x184 vw185 → G183 x184 vw186) ∧
                      ∃ G187 : Slc → World → Prop, (∀ (x188 : Slc) (vw189 : World) (vw190 : World), le173 vw189 vw190 → G187 x188 vw189 → G187 x188 vw190) ∧
                      ∃ G191 : Addr → World → Prop, (∀ (x192 : Addr) (vw193 : World) (vw194 : World), le173 vw193 vw194 → G191 x192 vw193 → G191 x192 vw194) ∧
                      ∃ G195 : ByteArray → World → Prop, (∀ (x196 : ByteArray) (vw197 : World) (vw198 : World), le173 vw197 vw198 → G195 x196 vw197 → G195 x196 vw198) ∧
                      ∃ G199 : ByteArray → World → Prop, (∀ (x200 : ByteArray) (vw201 : World) (vw202 : World), le173 vw201 vw202 → G199 x200 vw201 → G199 x200 vw202) ∧
                      ((∀ (vw203 : World), True → B174 vw203 → Nw vw203 (.cells #[.string ((⟨#[115]⟩ : ByteArray)), .string ((⟨#[98]⟩ : ByteArray)), .string ((⟨#[98, 42]⟩ : ByteArray)), .string ((⟨#[70]⟩ : ByteArray))] 9) fun vw204 =>
                        True ∧ B174 vw204 ∧ le173 vw203 vw204 ∧ ∃ x205 : Slc, (Slc.v ((⟨some ⟨vw203.heap.size, 0, none⟩, 4, 4⟩ : Slc)) : Value) = Slc.v x205 ∧ G175 x205 vw204) ∧
                      (∀ (vw206 : World), True → B174 vw206 → ∀ (x207 : Slc), G175 x207 vw206 → 0 ≤ which7 ∧ which7 < (x207.len : Nat) ∧ Nn x207.p fun a208 =>
                        True ∧ B174 vw206 ∧ le173 vw206 vw206 ∧ ∃ x209 : Addr, (.pointer (some (a208.add ((which7).toNat * 1))) : Value) = .pointer (some x209) ∧ G179 x209 vw206) ∧
                      (∀ (vw210 : World), True → B174 vw210 → ∀ (x211 : Addr), G179 x211 vw210 → Ld vw210 x211 Value.string fun (x212 : ByteArray) =>
                        True ∧ B174 vw210 ∧ le173 vw210 vw210 ∧ ∃ x213 : ByteArray, (.string x212 : Value) = .string x213 ∧ G183 x213 vw210) ∧
                      (∀ (vw214 : World), True → B174 vw214 → Nw vw214 (.cells #[.string ((⟨#[83]⟩ : ByteArray)), .string ((⟨#[66]⟩ : ByteArray)), .string ((⟨#[66, 42]⟩ : ByteArray)), .string ((⟨#[102]⟩ : ByteArray))] 9) fun vw215 =>
                        True ∧ B174 vw215 ∧ le173 vw214 vw215 ∧ ∃ x216 : Slc, (Slc.v ((⟨some ⟨vw214.heap.size, 0, none⟩, 4, 4⟩ : Slc)) : Value) = Slc.v x216 ∧ G187 x216 vw215) ∧
                      (∀ (vw217 : World), True → B174 vw217 → ∀ (x218 : Slc), G187 x218 vw217 → 0 ≤ which7 ∧ which7 < (x218.len : Nat) ∧ Nn x218.p fun a219 =>
                        True ∧ B174 vw217 ∧ le173 vw217 vw217 ∧ ∃ x220 : Addr, (.pointer (some (a219.add ((which7).toNat * 1))) : Value) = .pointer (some x220) ∧ G191 x220 vw217) ∧
                      (∀ (vw221 : World), True → B174 vw221 → ∀ (x222 : Addr), G191 x222 vw221 → Ld vw221 x222 Value.string fun (x223 : ByteArray) =>
                        True ∧ B174 vw221 ∧ le173 vw221 vw221 ∧ ∃ x224 : ByteArray, (.string x223 : Value) = .string x224 ∧ G195 x224 vw221) ∧
                      (∀ (vw225 : World), True → B174 vw225 → ∀ (x226 : ByteArray), G183 x226 vw225 → True ∧ B174 vw225 ∧ le173 vw225 vw225 ∧ ∃ x227 : ByteArray, (.string x226 : Value) = .string x227 ∧ G199 x227 vw225) ∧
                      True) ∧
                      (∀ (vw228 : World), True → B174 vw228 → ∀ (x229 : Slc), G175 x229 vw228 → ∀ (x230 : Addr), G179 x230 vw228 → ∀ (x231 : ByteArray), G183 x231 vw228 → ∀ (x232 : Slc), G187 x232 vw228 → ∀ (x233 : Addr), G191 x233 vw228 → ∀ (x234 : ByteArray), G195 x234 vw228 → ∀ (one235 : ByteArray), G199 one235 vw228 → Join (S6J1 s59 r158 x234 one235 R) fun (vJ269 : Unit → World → Prop) =>
                          ∃ vS270 : World → Prop, vS270 vw228.drew ∧ Br (decide (which7 < 3)) (LdS vS270 (⟨w.heap.size, 0, none⟩ : Addr) (Value.int .i64) fun (x271 : Int) =>
                            LdS vS270 ((⟨w.heap.size, 0, none⟩ : Addr).add 1) (Value.int .i64) fun (x272 : Int) =>
                            LdS vS270 ((⟨w.heap.size, 0, none⟩ : Addr).add 2) (Value.int .i64) fun (x273 : Int) =>
                            LdS vS270 ((⟨w.heap.size, 0, none⟩ : Addr).add 3) (Value.int .i64) fun (x274 : Int) =>
                            LdS vS270 ((⟨w.heap.size, 0, none⟩ : Addr).add 4) (Value.int .i64) fun (x275 : Int) =>
                            LdS vS270 ((⟨w.heap.size, 0, none⟩ : Addr).add 5) (Value.int .i64) fun (x276 : Int) =>
                            C42 (⟨#[104]⟩ : ByteArray) (⟨none, 0, 0⟩ : Slc) vw228.drew fun r277 vw278 =>
                              vS270 vw278 ∧ C23 r158 (r277.1, r277.2.1, r277.2.2) (x271, x272, x273, x274, x275, x276) vw278 fun r279 vw280 =>
                                Br (r279 != 0) (R false vw280) (vJ269 () vw280)) (vJ269 () vw228.drew))))))
/-- foliant/foliantlaw45.PathClosed -/
def S6 (l1 : Slc) (m2 : Int × Int × Int × Int × Int × Int) (x3 : Int) (y4 : Int) (vw5 : Int) (h6 : Int) (which7 : Int) (w : World) (R : Bool → World → Prop) : Prop :=
  Nw w (.cells #[.int .i64 (m2.1), .int .i64 (m2.2.1), .int .i64 (m2.2.2.1), .int .i64 (m2.2.2.2.1), .int .i64 (m2.2.2.2.2.1), .int .i64 (m2.2.2.2.2.2)] 23) fun vw8 =>
  C34 vw8 fun r11 vw12 =>
    Br (!r11) (R false vw12) (C33 l1 vw12 fun r15 vw16 =>
        Br (!r15) (R true vw16) (Br (decide (which7 < 0)) (R true vw16) (Br (decide (which7 > 3)) (R true vw16) (Br (decide (x3 < (-10000))) (R true vw16) (Br (decide (x3 > 10000)) (R true vw16) (Br (decide (y4 < (-10000))) (R true vw16) (Br (decide (y4 > 10000)) (R true vw16) (Br (decide (vw5 < (-10000))) (R true vw16) (Br (decide (vw5 > 10000)) (R true vw16) (Br (decide (h6 < (-10000))) (R true vw16) (Br (decide (h6 > 10000)) (R true vw16) (Join (S6J2 w l1 x3 y4 vw5 h6 which7 R) fun (vJ281 : (Option Addr × Bool) → World → Prop) =>
                                ∃ vS282 : World → Prop, vS282 vw16.drew ∧ LdS vS282 (⟨w.heap.size, 0, none⟩ : Addr) (Value.int .i64) fun (x283 : Int) =>
                                LdS vS282 ((⟨w.heap.size, 0, none⟩ : Addr).add 1) (Value.int .i64) fun (x284 : Int) =>
                                LdS vS282 ((⟨w.heap.size, 0, none⟩ : Addr).add 2) (Value.int .i64) fun (x285 : Int) =>
                                LdS vS282 ((⟨w.heap.size, 0, none⟩ : Addr).add 3) (Value.int .i64) fun (x286 : Int) =>
                                LdS vS282 ((⟨w.heap.size, 0, none⟩ : Addr).add 4) (Value.int .i64) fun (x287 : Int) =>
                                LdS vS282 ((⟨w.heap.size, 0, none⟩ : Addr).add 5) (Value.int .i64) fun (x288 : Int) =>
                                (Nw vw16.drew (.cells #[] 63) fun vw289 =>
                                  vS282 vw289 ∧ (Rn Tryd.prog (Builtin.append_ #[84, 84] 84 #[Slc.v ((⟨some ⟨vw16.drew.heap.size, 0, none⟩, 0, 0⟩ : Slc)), Slc.v l1]) vw289 Slc.v fun (x290 : Slc) vw291 =>
                                    vS282 vw291 ∧ Nw vw291 (.cells #[.int .i64 x3, .int .i64 y4, .int .i64 vw5, .int .i64 h6] 2) fun vw292 =>
                                    vS282 vw292 ∧ C42 (⟨#[114, 101]⟩ : ByteArray) (⟨some ⟨vw291.heap.size, 0, none⟩, 4, 4⟩ : Slc) vw292 fun r293 vw294 =>
                                      vS282 vw294 ∧ Nw vw294 (.cells #[.string r293.1, Slc.v r293.2.1, .string r293.2.2] 63) fun vw295 =>
                                      vS282 vw295 ∧ Rn Tryd.prog (Builtin.append_ #[84, 84] 84 #[Slc.v x290, Slc.v ((⟨some ⟨vw294.heap.size, 0, none⟩, 1, 1⟩ : Slc))]) vw295 Slc.v fun (x296 : Slc) vw297 =>
                                      vS282 vw297 ∧ C41 x296 (x283, x284, x285, x286, x287, x288) vw297 fun r298 r299 vw300 =>
                                        vJ281 (r298, r299) vw300) ∧
                                  (Nw vw289 (.cells #[.int .i64 x3, .int .i64 y4, .int .i64 vw5, .int .i64 h6] 2) fun vw301 =>
                                    vS282 vw301 ∧ Rn Tryd.prog (Builtin.append_ #[84, 84] 84 #[Slc.v ((⟨some ⟨vw16.drew.heap.size, 0, none⟩, 0, 0⟩ : Slc)), Slc.v l1]) vw301 Slc.v fun (x302 : Slc) vw303 =>
                                    vS282 vw303 ∧ C42 (⟨#[114, 101]⟩ : ByteArray) (⟨some ⟨vw289.heap.size, 0, none⟩, 4, 4⟩ : Slc) vw303 fun r304 vw305 =>
                                      vS282 vw305 ∧ Nw vw305 (.cells #[.string r304.1, Slc.v r304.2.1, .string r304.2.2] 63) fun vw306 =>
                                      vS282 vw306 ∧ Rn Tryd.prog (Builtin.append_ #[84, 84] 84 #[Slc.v x302, Slc.v ((⟨some ⟨vw305.heap.size, 0, none⟩, 1, 1⟩ : Slc))]) vw306 Slc.v fun (x307 : Slc) vw308 =>
                                      vS282 vw308 ∧ C41 x307 (x283, x284, x285, x286, x287, x288) vw308 fun r309 r310 vw311 =>
                                        vJ281 (r309, r310) vw311)) ∧
                                (Nw vw16.drew (.cells #[.int .i64 x3, .int .i64 y4, .int .i64 vw5, .int .i64 h6] 2) fun vw312 =>
                                  vS282 vw312 ∧ Nw vw312 (.cells #[] 63) fun vw313 =>
                                  vS282 vw313 ∧ Rn Tryd.prog (Builtin.append_ #[84, 84] 84 #[Slc.v ((⟨some ⟨vw312.heap.size, 0, none⟩, 0, 0⟩ : Slc)), Slc.v l1]) vw313 Slc.v fun (x314 : Slc) vw315 =>
                                  vS282 vw315 ∧ C42 (⟨#[114, 101]⟩ : ByteArray) (⟨some ⟨vw16.drew.heap.size, 0, none⟩, 4, 4⟩ : Slc) vw315 fun r316 vw317 =>
                                    vS282 vw317 ∧ Nw vw317 (.cells #[.string r316.1, Slc.v r316.2.1, .string r316.2.2] 63) fun vw318 =>
                                    vS282 vw318 ∧ Rn Tryd.prog (Builtin.append_ #[84, 84] 84 #[Slc.v x314, Slc.v ((⟨some ⟨vw317.heap.size, 0, none⟩, 1, 1⟩ : Slc))]) vw318 Slc.v fun (x319 : Slc) vw320 =>
                                    vS282 vw320 ∧ C41 x319 (x283, x284, x285, x286, x287, x288) vw320 fun r321 r322 vw323 =>
                                      vJ281 (r321, r322) vw323)))))))))))))
def pl6 : Plan := (.seq (.reg .seq) (.seq (.seq (.reg .seq) (.cond (.seq (.reg .seq) .leaf) .leaf)) (.seq (.seq (.reg .seq) (.cond (.seq (.reg .seq) .leaf) .leaf)) (.join [(15, (.one .ptr)), (16, (.one .bool))] [0, 2, 3, 4, 5, 6, 8] (.reg (.held [12] (.take 1 (.take 3 (.take 4 (.take 5 (.take 6 (.take 11 (.effs 0 none (.effs 2 none (.eff 7 none (.eff 8 none (.eff 9 none (.eff 10 none (.eff 12 (some []) (.take 13 (.take 14 (.take 15 (.take 16 (.take 17 .done)))))))))) (.eff 7 none (.eff 2 none (.eff 8 none (.eff 9 none (.eff 10 none (.eff 12 (some []) (.take 13 (.take 14 (.take 15 (.take 16 (.take 17 .done)))))))))))) (.eff 7 none (.eff 0 none (.eff 2 none (.eff 8 none (.eff 9 none (.eff 10 none (.eff 12 (some []) (.take 13 (.take 14 (.take 15 (.take 16 (.take 17 .done))))))))))))))))))))) (.seq (.reg (.held [31] (.take 1 (.take 3 (.take 4 (.take 7 (.take 8 (.take 9 (.take 10 (.take 13 (.take 14 (.take 15 (.take 16 (.take 17 (.take 18 (.take 21 (.take 22 (.take 23 (.take 24 (.take 30 (.mono [0, 2, 5, 6, 11, 12, 19, 20, 25] (.eff 26 none (.eff 27 none (.eff 28 none (.eff 29 none (.eff 31 (some []) (.take 32 (.take 33 (.take 34 (.take 35 (.take 36 .done))))))))))))))))))))))))))))))) (.seq (.seq (.reg .seq) (.cond (.seq (.reg .seq) .leaf) .leaf)) (.seq (.seq (.reg .seq) (.cond (.seq (.reg .seq) .leaf) .leaf)) (.seq (.reg (.held [] (.take 1 (.take 5 (.mono [0, 2, 3, 4, 6, 7, 8] (.take 9 .done)))))) (.join [] [15, 17, 19, 20] (.seq (.reg (.held [6] (.take 0 (.take 1 (.take 2 (.take 3 (.take 5 (.eff 4 none (.eff 6 (some []) (.take 7 (.take 8 .done))))))))))) (.cond (.seq (.reg .seq) .leaf) .leaf)) (.seq (.reg .seq) (.seq (.reg .seq) (.seq (.reg .seq) .leaf))))))))))))
set_option maxRecDepth 100000 in
theorem T6 (l1 : Slc) (m2 : Int × Int × Int × Int × Int × Int) (x3 : Int) (y4 : Int) (vw5 : Int) (h6 : Int) (which7 : Int) (w : World) (R : Bool → World → Prop) (h : S6 l1 m2 x3 y4 vw5 h6 which7 w R) : C6 l1 (m2.1, m2.2.1, m2.2.2.1, m2.2.2.2.1, m2.2.2.2.2.1, m2.2.2.2.2.2) x3 y4 vw5 h6 which7 w R := by
  have e : fnT Tryd.prog ⟨FF, MAY, (fun _ _ => False)⟩ pl6 Tryd.f6 [Slc.v l1, .agg #[.int .i64 (m2.1), .int .i64 (m2.2.1), .int .i64 (m2.2.2.1), .int .i64 (m2.2.2.2.1), .int .i64 (m2.2.2.2.2.1), .int .i64 (m2.2.2.2.2.2)], .int .i64 x3, .int .i64 y4, .int .i64 vw5, .int .i64 h6, .int .i64 which7] w [(.one .bool)] (fun s w => R s w) = S6 l1 m2 x3 y4 vw5 h6 which7 w R := by kernel_rfl
  exact (fn_calls okF okM Tryd.func6 (by kernel_rfl) (by kernel_rfl) (e.mpr h)).mono fun _ _ ⟨s, he, hR⟩ => ⟨s, he, hR⟩

end Go.Proofs.YtjbeembbnkmpeaaDoor
