/- The formulas of 9 functions of the program, written by program (gen.py); the kernel checks each. No condition. -/
import Derived.Test.YtcblpehnkogfdaaGreatDoorFn
import Derived.Test.YtcblpehnkogfdaaGreatDoorFnFix
import Derived.Test.YtcblpehnkogfdaaGreatDoorFnMat
import Derived.Test.YtcblpehnkogfdaaGreatDoorFnFont
import Derived.Test.YtcblpehnkogfdaaGreatDoorFnShow
import Derived.Test.YtcblpehnkogfdaaGreatDoorFnObj
import Derived.Test.YtcblpehnkogfdaaGreatDoorFnOps
import Derived.Test.YtcblpehnkogfdaaGreatDoorFnMach
namespace Go.Proofs.YtcblpehnkogfdaaGreatDoor
open Sh
set_option linter.unusedVariables false
set_option maxRecDepth 100000

def C26 (w : World) (R : (TyA30) → World → Prop) : Prop :=
  Calls Tryz.prog 26 #[] w fun e w' => ∃ r0 : TyA30, e = .returned (.agg (Sig.cells LiA30 r0).toArray) ∧ R r0 w'
theorem C26.mono {w : World} {R R' : (TyA30) → World → Prop} (h : C26 w R) (hr : ∀ r0 w', R r0 w' → R' r0 w') : C26 w R' :=
  Calls.mono h fun _ _ ⟨r0, he, hR⟩ => ⟨r0, he, hr _ _ hR⟩
def C27 (w : World) (R : (TyA34) → World → Prop) : Prop :=
  Calls Tryz.prog 27 #[] w fun e w' => ∃ r0 : TyA34, e = .returned (.agg (Sig.cells LiA34 r0).toArray) ∧ R r0 w'
theorem C27.mono {w : World} {R R' : (TyA34) → World → Prop} (h : C27 w R) (hr : ∀ r0 w', R r0 w' → R' r0 w') : C27 w R' :=
  Calls.mono h fun _ _ ⟨r0, he, hR⟩ => ⟨r0, he, hr _ _ hR⟩
def C28 (name1 : ByteArray) (s2 : ByteArray) (w : World) (R : (ByteArray × Slc × ByteArray) → World → Prop) : Prop :=
  Calls Tryz.prog 28 #[.string name1, .string s2] w fun e w' => ∃ r0 : ByteArray × Slc × ByteArray, e = .returned (.agg #[.string r0.1, Slc.v r0.2.1, .string r0.2.2]) ∧ R r0 w'
theorem C28.mono {name1 : ByteArray} {s2 : ByteArray} {w : World} {R R' : (ByteArray × Slc × ByteArray) → World → Prop} (h : C28 name1 s2 w R) (hr : ∀ r0 w', R r0 w' → R' r0 w') : C28 name1 s2 w R' :=
  Calls.mono h fun _ _ ⟨r0, he, hR⟩ => ⟨r0, he, hr _ _ hR⟩
def C10 (w : World) (R : Bool → World → Prop) : Prop :=
  Calls Tryz.prog 10 #[] w fun e w' => ∃ r0 : Bool, e = .returned (.bool r0) ∧ R r0 w'
theorem C10.mono {w : World} {R R' : Bool → World → Prop} (h : C10 w R) (hr : ∀ r0 w', R r0 w' → R' r0 w') : C10 w R' :=
  Calls.mono h fun _ _ ⟨r0, he, hR⟩ => ⟨r0, he, hr _ _ hR⟩
def C25 (o1 : Int × Int × Int × ByteArray × Slc × Slc) (w : World) (R : Int → World → Prop) : Prop :=
  Calls Tryz.prog 25 #[.agg #[.int .i64 (o1.1), .int .i64 (o1.2.1), .int .i64 (o1.2.2.1), .string o1.2.2.2.1, Slc.v o1.2.2.2.2.1, Slc.v o1.2.2.2.2.2]] w fun e w' => ∃ r0 : Int, e = .returned (.int .i64 r0) ∧ R r0 w'
theorem C25.mono {o1 : Int × Int × Int × ByteArray × Slc × Slc} {w : World} {R R' : Int → World → Prop} (h : C25 o1 w R) (hr : ∀ r0 w', R r0 w' → R' r0 w') : C25 o1 w R' :=
  Calls.mono h fun _ _ ⟨r0, he, hR⟩ => ⟨r0, he, hr _ _ hR⟩
def C9 (l1 : Slc) (f2 : TyA34) (w : World) (R : Bool → World → Prop) : Prop :=
  Calls Tryz.prog 9 #[Slc.v l1, .agg (Sig.cells LiA34 f2).toArray] w fun e w' => ∃ r0 : Bool, e = .returned (.bool r0) ∧ R r0 w'
theorem C9.mono {l1 : Slc} {f2 : TyA34} {w : World} {R R' : Bool → World → Prop} (h : C9 l1 f2 w R) (hr : ∀ r0 w', R r0 w' → R' r0 w') : C9 l1 f2 w R' :=
  Calls.mono h fun _ _ ⟨r0, he, hR⟩ => ⟨r0, he, hr _ _ hR⟩
def C6 (g1 : TyA30) (f2 : TyA34) (s3 : ByteArray) (w : World) (R : Bool → World → Prop) : Prop :=
  Calls Tryz.prog 6 #[.agg (Sig.cells LiA30 g1).toArray, .agg (Sig.cells LiA34 f2).toArray, .string s3] w fun e w' => ∃ r0 : Bool, e = .returned (.bool r0) ∧ R r0 w'
theorem C6.mono {g1 : TyA30} {f2 : TyA34} {s3 : ByteArray} {w : World} {R R' : Bool → World → Prop} (h : C6 g1 f2 s3 w R) (hr : ∀ r0 w', R r0 w' → R' r0 w') : C6 g1 f2 s3 w R' :=
  Calls.mono h fun _ _ ⟨r0, he, hR⟩ => ⟨r0, he, hr _ _ hR⟩
def C19 (name1 : ByteArray) (a2 : Int) (b3 : Int) (w : World) (R : (ByteArray × Slc × ByteArray) → World → Prop) : Prop :=
  Calls Tryz.prog 19 #[.string name1, .int .i64 a2, .int .i64 b3] w fun e w' => ∃ r0 : ByteArray × Slc × ByteArray, e = .returned (.agg #[.string r0.1, Slc.v r0.2.1, .string r0.2.2]) ∧ R r0 w'
theorem C19.mono {name1 : ByteArray} {a2 : Int} {b3 : Int} {w : World} {R R' : (ByteArray × Slc × ByteArray) → World → Prop} (h : C19 name1 a2 b3 w R) (hr : ∀ r0 w', R r0 w' → R' r0 w') : C19 name1 a2 b3 w R' :=
  Calls.mono h fun _ _ ⟨r0, he, hR⟩ => ⟨r0, he, hr _ _ hR⟩
def C18 (g1 : TyA30) (w : World) (R : Int → World → Prop) : Prop :=
  Calls Tryz.prog 18 #[.agg (Sig.cells LiA30 g1).toArray] w fun e w' => ∃ r0 : Int, e = .returned (.int .i64 r0) ∧ R r0 w'
theorem C18.mono {g1 : TyA30} {w : World} {R R' : Int → World → Prop} (h : C18 g1 w R) (hr : ∀ r0 w', R r0 w' → R' r0 w') : C18 g1 w R' :=
  Calls.mono h fun _ _ ⟨r0, he, hR⟩ => ⟨r0, he, hr _ _ hR⟩

/-- foliant/foliantlaw48.Usually -/
def S26 (w : World) (R : (TyA30) → World → Prop) : Prop :=
  Nw w (.cells #[.int .i64 0, .int .i64 0, .int .i64 0, .int .i64 0, .int .i64 0, .int .i64 0, .int .i64 0, .int .i64 0, .int .i64 0, .int .i64 0, Slc.v ((⟨none, 0, 0⟩ : Slc)), .int .i64 0, .int .i64 0, .int .i64 0, .int .i64 0, .int .i64 0, .int .i64 0, .int .i64 0, .int .i64 0, .int .i64 0, .int .i64 0, .int .i64 0, .int .i64 0, .int .i64 0, .int .i64 0, .int .i64 0, .int .i64 0, .int .i64 0, .string ((⟨#[]⟩ : ByteArray)), .int .i64 0] 31) fun vw1 =>
  C22 vw1 fun r2 vw3 =>
    StT (⟨w.heap.size, 0, none⟩ : Addr) 0 LiA30 ((r2.1, r2.2.1, r2.2.2.1, r2.2.2.2.1, r2.2.2.2.2.1, r2.2.2.2.2.2, 0, 0, 0, 0, (⟨none, 0, 0⟩ : Slc), 0, 0, 0, 0, 0, 0, 0, 0, 0, 0, 0, 0, 0, 1000000, 0, 100000, 0, (⟨#[70]⟩ : ByteArray), 0) : TyA30) vw3 fun vw4 =>
    LdT vw4 (⟨w.heap.size, 0, none⟩ : Addr) 0 LiA30 fun (x5 : TyA30) =>
    R x5 vw4
def pl26 : Plan := (.seq (.reg .seq) (.seq (.reg .seq) .leaf))
set_option maxRecDepth 100000 in
theorem T26 (w : World) (R : (TyA30) → World → Prop) (h : S26 w R) : C26 w R := by
  have e : fnT Tryz.prog ⟨FF, MAY, (fun _ _ => False)⟩ pl26 Tryz.f26 [] w [(.agg [(.int .i64), (.int .i64), (.int .i64), (.int .i64), (.int .i64), (.int .i64), (.int .i64), (.int .i64), (.int .i64), (.int .i64), .slc, (.int .i64), (.int .i64), (.int .i64), (.int .i64), (.int .i64), (.int .i64), (.int .i64), (.int .i64), (.int .i64), (.int .i64), (.int .i64), (.int .i64), (.int .i64), (.int .i64), (.int .i64), (.int .i64), (.int .i64), .str, (.int .i64)])] (fun s w => R s w) = S26 w R := by kernel_rfl
  exact (fn_calls okF okM Tryz.func26 (by kernel_rfl) (by kernel_rfl) (e.mpr h)).mono fun _ _ ⟨s, he, hR⟩ => ⟨s, he, hR⟩

/-- foliant/foliantlaw48.Face -/
def S27 (w : World) (R : (TyA34) → World → Prop) : Prop :=
  Nw w (.cells #[.string ((⟨#[]⟩ : ByteArray)), .bool false, .int .i64 0, Slc.v ((⟨none, 0, 0⟩ : Slc)), .int .i64 0, Slc.v ((⟨none, 0, 0⟩ : Slc)), Slc.v ((⟨none, 0, 0⟩ : Slc))] 35) fun vw1 =>
  Nw vw1 (.cells #[.int .i64 500] 2) fun vw2 =>
  StT (⟨w.heap.size, 0, none⟩ : Addr) 0 LiA34 (((⟨#[70]⟩ : ByteArray), false, 97, (⟨some ⟨vw1.heap.size, 0, none⟩, 1, 1⟩ : Slc), 250, (⟨none, 0, 0⟩ : Slc), (⟨none, 0, 0⟩ : Slc)) : TyA34) vw2 fun vw3 =>
  LdT vw3 (⟨w.heap.size, 0, none⟩ : Addr) 0 LiA34 fun (x4 : TyA34) =>
  R x4 vw3
def pl27 : Plan := (.seq (.reg .seq) (.seq (.reg .seq) .leaf))
set_option maxRecDepth 100000 in
theorem T27 (w : World) (R : (TyA34) → World → Prop) (h : S27 w R) : C27 w R := by
  have e : fnT Tryz.prog ⟨FF, MAY, (fun _ _ => False)⟩ pl27 Tryz.f27 [] w [(.agg [.str, .bool, (.int .i64), .slc, (.int .i64), .slc, .slc])] (fun s w => R s w) = S27 w R := by kernel_rfl
  exact (fn_calls okF okM Tryz.func27 (by kernel_rfl) (by kernel_rfl) (e.mpr h)).mono fun _ _ ⟨s, he, hR⟩ => ⟨s, he, hR⟩

/-- foliant/foliantlaw48.Said -/
def S28 (name1 : ByteArray) (s2 : ByteArray) (w : World) (R : (ByteArray × Slc × ByteArray) → World → Prop) : Prop :=
  Nw w (.cells #[.string ((⟨#[]⟩ : ByteArray)), Slc.v ((⟨none, 0, 0⟩ : Slc)), .string ((⟨#[]⟩ : ByteArray))] 48) fun vw3 =>
  Nw vw3 (.cells #[.int .i64 4, .int .i64 0, .int .i64 0, .string s2, Slc.v ((⟨none, 0, 0⟩ : Slc)), Slc.v ((⟨none, 0, 0⟩ : Slc))] 61) fun vw4 =>
  St vw4 (⟨w.heap.size, 0, none⟩ : Addr) (.string name1) fun vw5 =>
  St vw5 ((⟨w.heap.size, 0, none⟩ : Addr).add 1) (Slc.v ((⟨some ⟨vw3.heap.size, 0, none⟩, 1, 1⟩ : Slc))) fun vw6 =>
  St vw6 ((⟨w.heap.size, 0, none⟩ : Addr).add 2) (.string ((⟨#[]⟩ : ByteArray))) fun vw7 =>
  Ld vw7 (⟨w.heap.size, 0, none⟩ : Addr) Value.string fun (x8 : ByteArray) =>
  Ld vw7 ((⟨w.heap.size, 0, none⟩ : Addr).add 1) Slc.v fun (x9 : Slc) =>
  Ld vw7 ((⟨w.heap.size, 0, none⟩ : Addr).add 2) Value.string fun (x10 : ByteArray) =>
  R (x8, x9, x10) vw7
def pl28 : Plan := (.seq (.reg .seq) (.seq (.reg .seq) .leaf))
set_option maxRecDepth 100000 in
theorem T28 (name1 : ByteArray) (s2 : ByteArray) (w : World) (R : (ByteArray × Slc × ByteArray) → World → Prop) (h : S28 name1 s2 w R) : C28 name1 s2 w R := by
  have e : fnT Tryz.prog ⟨FF, MAY, (fun _ _ => False)⟩ pl28 Tryz.f28 [.string name1, .string s2] w [(.agg [.str, .slc, .str])] (fun s w => R s w) = S28 name1 s2 w R := by kernel_rfl
  exact (fn_calls okF okM Tryz.func28 (by kernel_rfl) (by kernel_rfl) (e.mpr h)).mono fun _ _ ⟨s, he, hR⟩ => ⟨s, he, hR⟩

def S10J1 (vw5 : World) (r46 : Option Addr) (r59 : Int) (r66 : Int) (r73 : Int) (s89 : Int) (r97 : Slc) (r98 : Int) (vw101 : World) (s131 : Slc × Int) (r138 : Int) (R : Bool → World → Prop) (s162 : Int) (vw163 : World) : Prop :=
  C16 r46 vw163 fun r164 vw165 =>
    ∃ vS166 : World → Prop, vS166 vw165.drew ∧ LdST vS166 (⟨vw5.heap.size, 0, none⟩ : Addr) 0 LiA34 fun (x167 : TyA34) =>
    C26 vw165.drew fun r168 vw169 =>
      vS166 vw169 ∧ C13 r46 ((⟨#[69, 84]⟩ : ByteArray), (⟨none, 0, 0⟩ : Slc), (⟨#[]⟩ : ByteArray)) r168 x167 vw169 fun r170 r171 vw172 =>
        Br (r59 != 29) (R false vw172) (Br (r66 != 0) (R false vw172) (Br (r73 != 29) (R false vw172) (Br (s89 != 0) (R false vw172) (Br (r98 != 0) (R false vw172) (Br (((r97.len : Nat) : Int) != 2) (R false vw172) (0 ≤ (0 : Int) ∧ (0 : Int) < (r97.len : Nat) ∧ Nn r97.p fun a182 =>
                    LdT vw172 (a182.add (((0 : Int)).toNat * 9)) 0 LiA69 fun (x183 : TyA69) =>
                    Lt (!((x183.1 == 97) && ((x183.2.1.toList == (⟨#[97]⟩ : ByteArray).toList) && (((x183.2.2.1 == 20000) && ((x183.2.2.2.1 == 5000) && true)) && (((x183.2.2.2.2.1 == 70000) && ((x183.2.2.2.2.2.1 == 5000) && true)) && ((x183.2.2.2.2.2.2.1 == 100000) && ((x183.2.2.2.2.2.2.2.1.toList == (⟨#[70]⟩ : ByteArray).toList) && ((x183.2.2.2.2.2.2.2.2 == 0) && true)))))))) fun (x184 : Bool) =>
                    Br x184 (R false vw172) (0 ≤ (1 : Int) ∧ (1 : Int) < (r97.len : Nat) ∧ Nn r97.p fun a185 =>
                      Ld vw172 ((a185.add (((1 : Int)).toNat * 9)).add 2) (Value.int .i64) fun (x186 : Int) =>
                      Br (x186 != 70000) (R false vw172) (0 ≤ (1 : Int) ∧ (1 : Int) < (r97.len : Nat) ∧ Nn r97.p fun a187 =>
                        Ld vw172 ((a187.add (((1 : Int)).toNat * 9)).add 4) (Value.int .i64) fun (x188 : Int) =>
                        Br (x188 != 95000) (R false vw172) (Ld vw172 ((⟨vw101.heap.size, 0, none⟩ : Addr).add 4) (Value.int .i64) fun (x189 : Int) =>
                          Br (x189 != 95000) (R false vw172) (Ld vw172 ((⟨vw101.heap.size, 0, none⟩ : Addr).add 5) (Value.int .i64) fun (x190 : Int) =>
                            Br (x190 != 5000) (R false vw172) (Br (s131.2 == 0) (Br (((s131.1.len : Nat) : Int) == 2) (0 ≤ (0 : Int) ∧ (0 : Int) < (s131.1.len : Nat) ∧ Nn s131.1.p fun a191 =>
                                  Ld vw172 ((a191.add (((0 : Int)).toNat * 9)).add 2) (Value.int .i64) fun (x192 : Int) =>
                                  Br (x192 == 95000) (0 ≤ (1 : Int) ∧ (1 : Int) < (s131.1.len : Nat) ∧ Nn s131.1.p fun a193 =>
                                    Ld vw172 ((a193.add (((1 : Int)).toNat * 9)).add 2) (Value.int .i64) fun (x194 : Int) =>
                                    Br (x194 == 245000) (Br (r138 == 8) (Br (s162 == 28) (Br r164 (Br (r171 == 0) (C16 r46 vw172 fun r195 vw196 =>
                                                Br (!r195) (C17 r46 vw196 fun r197 vw198 =>
                                                    C22 vw198 fun r199 vw200 =>
                                                      Lt (((r197.1 == r199.1) && ((r197.2.1 == r199.2.1) && ((r197.2.2.1 == r199.2.2.1) && ((r197.2.2.2.1 == r199.2.2.2.1) && ((r197.2.2.2.2.1 == r199.2.2.2.2.1) && ((r197.2.2.2.2.2 == r199.2.2.2.2.2) && true))))))) fun (x201 : Bool) =>
                                                      R x201 vw200) (R false vw196)) (R false vw172)) (R false vw172)) (R false vw172)) (R false vw172)) (R false vw172)) (R false vw172)) (R false vw172)) (R false vw172))))))))))))
def S10J2 (vw5 : World) (r46 : Option Addr) (r59 : Int) (r66 : Int) (r73 : Int) (s89 : Int) (r97 : Slc) (r98 : Int) (vw101 : World) (R : Bool → World → Prop) (s131 : Slc × Int) (vw132 : World) : Prop :=
  ∃ vS133 : World → Prop, vS133 vw132.drew ∧ LdST vS133 (⟨vw5.heap.size, 0, none⟩ : Addr) 0 LiA34 fun (x134 : TyA34) =>
  C26 vw132.drew fun r135 vw136 =>
    vS133 vw136 ∧ C13 r46 ((⟨#[113]⟩ : ByteArray), (⟨none, 0, 0⟩ : Slc), (⟨#[]⟩ : ByteArray)) r135 x134 vw136 fun r137 r138 vw139 =>
      Join (S10J1 vw5 r46 r59 r66 r73 s89 r97 r98 vw101 s131 r138 R) fun (vJ202 : Int → World → Prop) =>
        ∃ vS203 : World → Prop, vS203 vw139.drew ∧ LdST vS203 (⟨vw5.heap.size, 0, none⟩ : Addr) 0 LiA34 fun (x204 : TyA34) =>
        (Nw vw139.drew (.cells #[.int .i64 0, .int .i64 0, .int .i64 0, .string ((⟨#[]⟩ : ByteArray)), Slc.v ((⟨none, 0, 0⟩ : Slc)), Slc.v ((⟨none, 0, 0⟩ : Slc))] 61) fun vw205 =>
          vS203 vw205 ∧ (Nw vw205 (.cells #[.int .i64 6, .int .i64 0, .int .i64 0, .string ((⟨#[]⟩ : ByteArray)), Slc.v ((⟨none, 0, 0⟩ : Slc)), Slc.v ((⟨some ⟨vw139.drew.heap.size, 0, none⟩, 1, 1⟩ : Slc))] 61) fun vw206 =>
            vS203 vw206 ∧ C26 vw206 fun r207 vw208 =>
              vS203 vw208 ∧ C13 r46 ((⟨#[84, 74]⟩ : ByteArray), (⟨some ⟨vw205.heap.size, 0, none⟩, 1, 1⟩ : Slc), (⟨#[]⟩ : ByteArray)) r207 x204 vw208 fun r209 r210 vw211 =>
                vJ202 r210 vw211) ∧
          (C26 vw205 fun r212 vw213 =>
              vS203 vw213 ∧ Nw vw213 (.cells #[.int .i64 6, .int .i64 0, .int .i64 0, .string ((⟨#[]⟩ : ByteArray)), Slc.v ((⟨none, 0, 0⟩ : Slc)), Slc.v ((⟨some ⟨vw139.drew.heap.size, 0, none⟩, 1, 1⟩ : Slc))] 61) fun vw214 =>
              vS203 vw214 ∧ C13 r46 ((⟨#[84, 74]⟩ : ByteArray), (⟨some ⟨vw213.heap.size, 0, none⟩, 1, 1⟩ : Slc), (⟨#[]⟩ : ByteArray)) r212 x204 vw214 fun r215 r216 vw217 =>
                vJ202 r216 vw217)) ∧
        (C26 vw139.drew fun r218 vw219 =>
            vS203 vw219 ∧ Nw vw219 (.cells #[.int .i64 0, .int .i64 0, .int .i64 0, .string ((⟨#[]⟩ : ByteArray)), Slc.v ((⟨none, 0, 0⟩ : Slc)), Slc.v ((⟨none, 0, 0⟩ : Slc))] 61) fun vw220 =>
            vS203 vw220 ∧ Nw vw220 (.cells #[.int .i64 6, .int .i64 0, .int .i64 0, .string ((⟨#[]⟩ : ByteArray)), Slc.v ((⟨none, 0, 0⟩ : Slc)), Slc.v ((⟨some ⟨vw219.heap.size, 0, none⟩, 1, 1⟩ : Slc))] 61) fun vw221 =>
            vS203 vw221 ∧ C13 r46 ((⟨#[84, 74]⟩ : ByteArray), (⟨some ⟨vw220.heap.size, 0, none⟩, 1, 1⟩ : Slc), (⟨#[]⟩ : ByteArray)) r218 x204 vw221 fun r222 r223 vw224 =>
              vJ202 r223 vw224)
def S10J3 (vw5 : World) (r46 : Option Addr) (r59 : Int) (r66 : Int) (r73 : Int) (R : Bool → World → Prop) (s89 : Int) (vw90 : World) : Prop :=
  ∃ vS91 : World → Prop, vS91 vw90.drew ∧ LdST vS91 (⟨vw5.heap.size, 0, none⟩ : Addr) 0 LiA34 fun (x92 : TyA34) =>
  C28 (⟨#[84, 106]⟩ : ByteArray) (⟨#[97, 98]⟩ : ByteArray) vw90.drew fun r93 vw94 =>
    vS91 vw94 ∧ C26 vw94 fun r95 vw96 =>
      vS91 vw96 ∧ C13 r46 (r93.1, r93.2.1, r93.2.2) r95 x92 vw96 fun r97 r98 vw99 =>
        C17 r46 vw99 fun r100 vw101 =>
          Nw vw101 (.cells #[.int .i64 0, .int .i64 0, .int .i64 0, .int .i64 0, .int .i64 0, .int .i64 0] 24) fun vw102 =>
          St vw102 (⟨vw101.heap.size, 0, none⟩ : Addr) (.int .i64 (r100.1)) fun vw103 =>
          St vw103 ((⟨vw101.heap.size, 0, none⟩ : Addr).add 1) (.int .i64 (r100.2.1)) fun vw104 =>
          St vw104 ((⟨vw101.heap.size, 0, none⟩ : Addr).add 2) (.int .i64 (r100.2.2.1)) fun vw105 =>
          St vw105 ((⟨vw101.heap.size, 0, none⟩ : Addr).add 3) (.int .i64 (r100.2.2.2.1)) fun vw106 =>
          St vw106 ((⟨vw101.heap.size, 0, none⟩ : Addr).add 4) (.int .i64 (r100.2.2.2.2.1)) fun vw107 =>
          St vw107 ((⟨vw101.heap.size, 0, none⟩ : Addr).add 5) (.int .i64 (r100.2.2.2.2.2)) fun vw108 =>
          Join (S10J2 vw5 r46 r59 r66 r73 s89 r97 r98 vw101 R) fun (vJ225 : (Slc × Int) → World → Prop) =>
            ∃ vS226 : World → Prop, vS226 vw108.drew ∧ LdST vS226 (⟨vw5.heap.size, 0, none⟩ : Addr) 0 LiA34 fun (x227 : TyA34) =>
            (Nw vw108.drew (.cells #[.int .i64 4, .int .i64 0, .int .i64 0, .string ((⟨#[97]⟩ : ByteArray)), Slc.v ((⟨none, 0, 0⟩ : Slc)), Slc.v ((⟨none, 0, 0⟩ : Slc)), .int .i64 2, .int .i64 (-1000), .int .i64 0, .string ((⟨#[]⟩ : ByteArray)), Slc.v ((⟨none, 0, 0⟩ : Slc)), Slc.v ((⟨none, 0, 0⟩ : Slc)), .int .i64 4, .int .i64 0, .int .i64 0, .string ((⟨#[97]⟩ : ByteArray)), Slc.v ((⟨none, 0, 0⟩ : Slc)), Slc.v ((⟨none, 0, 0⟩ : Slc))] 61) fun vw228 =>
              vS226 vw228 ∧ (Nw vw228 (.cells #[.int .i64 6, .int .i64 0, .int .i64 0, .string ((⟨#[]⟩ : ByteArray)), Slc.v ((⟨none, 0, 0⟩ : Slc)), Slc.v ((⟨some ⟨vw108.drew.heap.size, 0, none⟩, 3, 3⟩ : Slc))] 61) fun vw229 =>
                vS226 vw229 ∧ C26 vw229 fun r230 vw231 =>
                  vS226 vw231 ∧ C13 r46 ((⟨#[84, 74]⟩ : ByteArray), (⟨some ⟨vw228.heap.size, 0, none⟩, 1, 1⟩ : Slc), (⟨#[]⟩ : ByteArray)) r230 x227 vw231 fun r232 r233 vw234 =>
                    vJ225 (r232, r233) vw234) ∧
              (C26 vw228 fun r235 vw236 =>
                  vS226 vw236 ∧ Nw vw236 (.cells #[.int .i64 6, .int .i64 0, .int .i64 0, .string ((⟨#[]⟩ : ByteArray)), Slc.v ((⟨none, 0, 0⟩ : Slc)), Slc.v ((⟨some ⟨vw108.drew.heap.size, 0, none⟩, 3, 3⟩ : Slc))] 61) fun vw237 =>
                  vS226 vw237 ∧ C13 r46 ((⟨#[84, 74]⟩ : ByteArray), (⟨some ⟨vw236.heap.size, 0, none⟩, 1, 1⟩ : Slc), (⟨#[]⟩ : ByteArray)) r235 x227 vw237 fun r238 r239 vw240 =>
                    vJ225 (r238, r239) vw240)) ∧
            (C26 vw108.drew fun r241 vw242 =>
                vS226 vw242 ∧ Nw vw242 (.cells #[.int .i64 4, .int .i64 0, .int .i64 0, .string ((⟨#[97]⟩ : ByteArray)), Slc.v ((⟨none, 0, 0⟩ : Slc)), Slc.v ((⟨none, 0, 0⟩ : Slc)), .int .i64 2, .int .i64 (-1000), .int .i64 0, .string ((⟨#[]⟩ : ByteArray)), Slc.v ((⟨none, 0, 0⟩ : Slc)), Slc.v ((⟨none, 0, 0⟩ : Slc)), .int .i64 4, .int .i64 0, .int .i64 0, .string ((⟨#[97]⟩ : ByteArray)), Slc.v ((⟨none, 0, 0⟩ : Slc)), Slc.v ((⟨none, 0, 0⟩ : Slc))] 61) fun vw243 =>
                vS226 vw243 ∧ Nw vw243 (.cells #[.int .i64 6, .int .i64 0, .int .i64 0, .string ((⟨#[]⟩ : ByteArray)), Slc.v ((⟨none, 0, 0⟩ : Slc)), Slc.v ((⟨some ⟨vw242.heap.size, 0, none⟩, 3, 3⟩ : Slc))] 61) fun vw244 =>
                vS226 vw244 ∧ C13 r46 ((⟨#[84, 74]⟩ : ByteArray), (⟨some ⟨vw243.heap.size, 0, none⟩, 1, 1⟩ : Slc), (⟨#[]⟩ : ByteArray)) r241 x227 vw244 fun r245 r246 vw247 =>
                  vJ225 (r245, r246) vw247)
/-- foliant/foliantlaw48.lives -/
def S10 (w : World) (R : Bool → World → Prop) : Prop :=
  C26 w fun r1 vw2 =>
    C27 vw2 fun r3 vw4 =>
      Nw vw4 (.cells #[.int .i64 0, .int .i64 0, .int .i64 0, .int .i64 0, .int .i64 0, .int .i64 0, .int .i64 0, .int .i64 0, .int .i64 0, .int .i64 0, Slc.v ((⟨none, 0, 0⟩ : Slc)), .int .i64 0, .int .i64 0, .int .i64 0, .int .i64 0, .int .i64 0, .int .i64 0, .int .i64 0, .int .i64 0, .int .i64 0, .int .i64 0, .int .i64 0, .int .i64 0, .int .i64 0, .int .i64 0, .int .i64 0, .int .i64 0, .int .i64 0, .string ((⟨#[]⟩ : ByteArray)), .int .i64 0] 31) fun vw5 =>
      Nw vw5 (.cells #[.string ((⟨#[]⟩ : ByteArray)), .bool false, .int .i64 0, Slc.v ((⟨none, 0, 0⟩ : Slc)), .int .i64 0, Slc.v ((⟨none, 0, 0⟩ : Slc)), Slc.v ((⟨none, 0, 0⟩ : Slc))] 35) fun vw6 =>
      StT (⟨vw4.heap.size, 0, none⟩ : Addr) 0 LiA30 r1 vw6 fun vw7 =>
      StT (⟨vw5.heap.size, 0, none⟩ : Addr) 0 LiA34 r3 vw7 fun vw8 =>
      LdT vw8 (⟨vw4.heap.size, 0, none⟩ : Addr) 0 LiA30 fun (x9 : TyA30) =>
      LdT vw8 (⟨vw5.heap.size, 0, none⟩ : Addr) 0 LiA34 fun (x10 : TyA34) =>
      C11 x9 x10 97 vw8 fun r11 r12 vw13 =>
        St vw13 ((⟨vw4.heap.size, 0, none⟩ : Addr).add 22) (.int .i64 1) fun vw14 =>
        St vw14 (((⟨vw4.heap.size, 0, none⟩ : Addr).add 22).add 1) (.int .i64 3) fun vw15 =>
        LdT vw15 (⟨vw4.heap.size, 0, none⟩ : Addr) 0 LiA30 fun (x16 : TyA30) =>
        LdT vw15 (⟨vw5.heap.size, 0, none⟩ : Addr) 0 LiA34 fun (x17 : TyA34) =>
        C11 x16 x17 97 vw15 fun r18 r19 vw20 =>
          LdT vw20 (⟨vw4.heap.size, 0, none⟩ : Addr) 0 LiA30 fun (x21 : TyA30) =>
          LdT vw20 (⟨vw5.heap.size, 0, none⟩ : Addr) 0 LiA34 fun (x22 : TyA34) =>
          C11 x21 x22 32 vw20 fun r23 r24 vw25 =>
            C26 vw25 fun r26 vw27 =>
              StT (⟨vw4.heap.size, 0, none⟩ : Addr) 0 LiA30 r26 vw27 fun vw28 =>
              St vw28 (((⟨vw4.heap.size, 0, none⟩ : Addr).add 22).add 2) (.int .i64 500000) fun vw29 =>
              LdT vw29 (⟨vw4.heap.size, 0, none⟩ : Addr) 0 LiA30 fun (x30 : TyA30) =>
              LdT vw29 (⟨vw5.heap.size, 0, none⟩ : Addr) 0 LiA34 fun (x31 : TyA34) =>
              C11 x30 x31 97 vw29 fun r32 r33 vw34 =>
                St vw34 (((⟨vw4.heap.size, 0, none⟩ : Addr).add 22).add 4) (.int .i64 1073741825) fun vw35 =>
                LdT vw35 (⟨vw4.heap.size, 0, none⟩ : Addr) 0 LiA30 fun (x36 : TyA30) =>
                LdT vw35 (⟨vw5.heap.size, 0, none⟩ : Addr) 0 LiA34 fun (x37 : TyA34) =>
                C11 x36 x37 97 vw35 fun r38 r39 vw40 =>
                  C26 vw40 fun r41 vw42 =>
                    C11 r41 (((⟨#[]⟩ : ByteArray), false, 0, (⟨none, 0, 0⟩ : Slc), 0, (⟨none, 0, 0⟩ : Slc), (⟨none, 0, 0⟩ : Slc)) : TyA34) 97 vw42 fun r43 r44 vw45 =>
                      C7 vw45 fun r46 vw47 =>
                        Br r46.isNone (R false vw47) (C16 r46 vw47 fun r50 vw51 =>
                            Br r50 (R false vw51) (Br (r11 != 50000) (R false vw51) (Br (r12 != 0) (R false vw51) (Br (r18 != 50001) (R false vw51) (Br (r19 != 0) (R false vw51) (Br (r23 != 25004) (R false vw51) (Br (r24 != 0) (R false vw51) (Br (r32 != 25000) (R false vw51) (Br (r33 != 0) (R false vw51) (Br (r39 != 2) (R false vw51) (Br (r44 != 1) (R false vw51) (∃ vS52 : World → Prop, vS52 vw51.drew ∧ LdST vS52 (⟨vw5.heap.size, 0, none⟩ : Addr) 0 LiA34 fun (x53 : TyA34) =>
                                                  C28 (⟨#[84, 106]⟩ : ByteArray) (⟨#[97]⟩ : ByteArray) vw51.drew fun r54 vw55 =>
                                                    vS52 vw55 ∧ C26 vw55 fun r56 vw57 =>
                                                      vS52 vw57 ∧ C13 r46 (r54.1, r54.2.1, r54.2.2) r56 x53 vw57 fun r58 r59 vw60 =>
                                                        ∃ vS61 : World → Prop, vS61 vw60.drew ∧ LdST vS61 (⟨vw5.heap.size, 0, none⟩ : Addr) 0 LiA34 fun (x62 : TyA34) =>
                                                        C26 vw60.drew fun r63 vw64 =>
                                                          vS61 vw64 ∧ C13 r46 ((⟨#[66, 84]⟩ : ByteArray), (⟨none, 0, 0⟩ : Slc), (⟨#[]⟩ : ByteArray)) r63 x62 vw64 fun r65 r66 vw67 =>
                                                            ∃ vS68 : World → Prop, vS68 vw67.drew ∧ LdST vS68 (⟨vw5.heap.size, 0, none⟩ : Addr) 0 LiA34 fun (x69 : TyA34) =>
                                                            C26 vw67.drew fun r70 vw71 =>
                                                              vS68 vw71 ∧ C13 r46 ((⟨#[66, 84]⟩ : ByteArray), (⟨none, 0, 0⟩ : Slc), (⟨#[]⟩ : ByteArray)) r70 x69 vw71 fun r72 r73 vw74 =>
                                                                Join (S10J3 vw5 r46 r59 r66 r73 R) fun (vJ248 : Int → World → Prop) =>
                                                                  ∃ vS249 : World → Prop, vS249 vw74.drew ∧ LdST vS249 (⟨vw5.heap.size, 0, none⟩ : Addr) 0 LiA34 fun (x250 : TyA34) =>
                                                                  (Nw vw74.drew (.cells #[.int .i64 2, .int .i64 2, .int .i64 0, .string ((⟨#[]⟩ : ByteArray)), Slc.v ((⟨none, 0, 0⟩ : Slc)), Slc.v ((⟨none, 0, 0⟩ : Slc)), .int .i64 3, .int .i64 5000, .int .i64 0, .string ((⟨#[]⟩ : ByteArray)), Slc.v ((⟨none, 0, 0⟩ : Slc)), Slc.v ((⟨none, 0, 0⟩ : Slc))] 61) fun vw251 =>
                                                                    vS249 vw251 ∧ C26 vw251 fun r252 vw253 =>
                                                                      vS249 vw253 ∧ C13 r46 ((⟨#[84, 100]⟩ : ByteArray), (⟨some ⟨vw74.drew.heap.size, 0, none⟩, 2, 2⟩ : Slc), (⟨#[]⟩ : ByteArray)) r252 x250 vw253 fun r254 r255 vw256 =>
                                                                        vJ248 r255 vw256) ∧
                                                                  (C26 vw74.drew fun r257 vw258 =>
                                                                      vS249 vw258 ∧ Nw vw258 (.cells #[.int .i64 2, .int .i64 2, .int .i64 0, .string ((⟨#[]⟩ : ByteArray)), Slc.v ((⟨none, 0, 0⟩ : Slc)), Slc.v ((⟨none, 0, 0⟩ : Slc)), .int .i64 3, .int .i64 5000, .int .i64 0, .string ((⟨#[]⟩ : ByteArray)), Slc.v ((⟨none, 0, 0⟩ : Slc)), Slc.v ((⟨none, 0, 0⟩ : Slc))] 61) fun vw259 =>
                                                                      vS249 vw259 ∧ C13 r46 ((⟨#[84, 100]⟩ : ByteArray), (⟨some ⟨vw258.heap.size, 0, none⟩, 2, 2⟩ : Slc), (⟨#[]⟩ : ByteArray)) r257 x250 vw259 fun r260 r261 vw262 =>
                                                                        vJ248 r261 vw262)))))))))))))
def pl10 : Plan := (.seq (.reg .seq) (.seq (.reg .seq) (.seq (.reg .seq) (.seq (.reg .seq) (.seq (.reg .seq) (.seq (.reg .seq) (.seq (.reg .seq) (.seq (.reg .seq) (.seq (.reg .seq) (.seq (.reg .seq) (.seq (.reg .seq) (.seq (.reg .seq) (.seq (.reg .seq) (.seq (.seq (.reg .seq) (.cond (.seq (.reg .seq) .leaf) .leaf)) (.seq (.reg (.held [4] (.take 0 (.take 3 (.eff 1 none (.eff 2 none (.eff 4 (some []) (.take 5 (.take 6 (.take 7 (.take 8 (.take 9 .done)))))))))))) (.seq (.reg (.held [4] (.take 0 (.take 1 (.take 3 (.eff 2 none (.eff 4 (some []) (.take 5 (.take 6 (.take 7 (.take 8 (.take 9 .done)))))))))))) (.seq (.reg (.held [4] (.take 0 (.take 1 (.take 3 (.eff 2 none (.eff 4 (some []) (.take 5 (.take 6 (.take 7 (.take 8 (.take 9 .done)))))))))))) (.join [(23, (.one (.int .i64)))] [2, 15, 17, 19, 21] (.reg (.held [7] (.take 0 (.take 1 (.take 2 (.take 6 (.effs 3 none (.take 4 (.eff 5 none (.eff 7 (some []) (.take 8 (.take 9 (.take 10 (.take 11 (.take 12 .done)))))))) (.eff 5 none (.eff 3 none (.take 4 (.eff 7 (some []) (.take 8 (.take 9 (.take 10 (.take 11 (.take 12 .done)))))))))))))))) (.seq (.reg (.held [4] (.take 0 (.take 3 (.eff 1 none (.eff 2 none (.eff 4 (some []) (.take 5 (.take 6 (.take 7 (.take 8 (.take 9 .done)))))))))))) (.seq (.reg .seq) (.join [(27, (.one .slc)), (28, (.one (.int .i64)))] [2, 15, 17, 19, 21, 23, 24, 25, 26] (.reg (.held [10] (.take 0 (.take 1 (.take 2 (.take 3 (.take 9 (.effs 4 none (.take 5 (.effs 6 none (.take 7 (.eff 8 none (.eff 10 (some []) (.take 11 (.take 12 (.take 13 (.take 14 (.take 15 .done)))))))) (.eff 8 none (.eff 6 none (.take 7 (.eff 10 (some []) (.take 11 (.take 12 (.take 13 (.take 14 (.take 15 .done))))))))))) (.eff 8 none (.eff 4 none (.take 5 (.eff 6 none (.take 7 (.eff 10 (some []) (.take 11 (.take 12 (.take 13 (.take 14 (.take 15 .done))))))))))))))))))) (.seq (.reg (.held [4] (.take 0 (.take 1 (.take 3 (.eff 2 none (.eff 4 (some []) (.take 5 (.take 6 (.take 7 (.take 8 (.take 9 .done)))))))))))) (.join [(32, (.one (.int .i64)))] [2, 15, 17, 19, 21, 23, 24, 25, 26, 27, 28, 30] (.reg (.held [8] (.take 0 (.take 1 (.take 7 (.effs 2 none (.take 3 (.effs 4 none (.take 5 (.eff 6 none (.eff 8 (some []) (.take 9 (.take 10 (.take 11 (.take 12 (.take 13 .done)))))))) (.eff 6 none (.eff 4 none (.take 5 (.eff 8 (some []) (.take 9 (.take 10 (.take 11 (.take 12 (.take 13 .done))))))))))) (.eff 6 none (.eff 2 none (.take 3 (.eff 4 none (.take 5 (.eff 8 (some []) (.take 9 (.take 10 (.take 11 (.take 12 (.take 13 .done))))))))))))))))) (.seq (.reg .seq) (.seq (.reg (.held [4] (.take 0 (.take 1 (.take 3 (.eff 2 none (.eff 4 (some []) (.take 5 (.take 6 (.take 7 (.take 8 (.take 9 .done)))))))))))) (.seq (.seq (.reg .seq) (.cond (.seq (.reg .seq) .leaf) .leaf)) (.seq (.reg .seq) .leaf)))))))))))))))))))))))))))
set_option maxRecDepth 100000 in
theorem T10 (w : World) (R : Bool → World → Prop) (h : S10 w R) : C10 w R := by
  have e : fnT Tryz.prog ⟨FF, MAY, (fun _ _ => False)⟩ pl10 Tryz.f10 [] w [(.one .bool)] (fun s w => R s w) = S10 w R := by kernel_rfl
  exact (fn_calls okF okM Tryz.func10 (by kernel_rfl) (by kernel_rfl) (e.mpr h)).mono fun _ _ ⟨s, he, hR⟩ => ⟨s, he, hR⟩

def S25L1 (x16 : Slc) (R : Int → World → Prop) (I19 : (Int × Int) → World → Prop) (s17 : Int × Int) (vw18 : World) : Prop :=
  Br (decide (s17.2 < ((x16.len : Nat) : Int))) (0 ≤ s17.2 ∧ s17.2 < (x16.len : Nat) ∧ Nn x16.p fun a20 =>
    Ld vw18 (a20.add ((s17.2).toNat * 6)) (Value.int .i64) fun (x21 : Int) =>
    Ld vw18 ((a20.add ((s17.2).toNat * 6)).add 1) (Value.int .i64) fun (x22 : Int) =>
    Ld vw18 ((a20.add ((s17.2).toNat * 6)).add 2) (Value.int .i64) fun (x23 : Int) =>
    Ld vw18 ((a20.add ((s17.2).toNat * 6)).add 3) Value.string fun (x24 : ByteArray) =>
    Ld vw18 ((a20.add ((s17.2).toNat * 6)).add 4) Slc.v fun (x25 : Slc) =>
    Ld vw18 ((a20.add ((s17.2).toNat * 6)).add 5) Slc.v fun (x26 : Slc) =>
    Nw vw18 (.cells #[.int .i64 0, .int .i64 0, .int .i64 0, .string ((⟨#[]⟩ : ByteArray)), Slc.v ((⟨none, 0, 0⟩ : Slc)), Slc.v ((⟨none, 0, 0⟩ : Slc))] 61) fun vw27 =>
    St vw27 (⟨vw18.heap.size, 0, none⟩ : Addr) (.int .i64 x21) fun vw28 =>
    St vw28 ((⟨vw18.heap.size, 0, none⟩ : Addr).add 1) (.int .i64 x22) fun vw29 =>
    St vw29 ((⟨vw18.heap.size, 0, none⟩ : Addr).add 2) (.int .i64 x23) fun vw30 =>
    St vw30 ((⟨vw18.heap.size, 0, none⟩ : Addr).add 3) (.string x24) fun vw31 =>
    St vw31 ((⟨vw18.heap.size, 0, none⟩ : Addr).add 4) (Slc.v x25) fun vw32 =>
    St vw32 ((⟨vw18.heap.size, 0, none⟩ : Addr).add 5) (Slc.v x26) fun vw33 =>
    Ld vw33 (⟨vw18.heap.size, 0, none⟩ : Addr) (Value.int .i64) fun (x34 : Int) =>
    Ld vw33 ((⟨vw18.heap.size, 0, none⟩ : Addr).add 1) (Value.int .i64) fun (x35 : Int) =>
    Ld vw33 ((⟨vw18.heap.size, 0, none⟩ : Addr).add 2) (Value.int .i64) fun (x36 : Int) =>
    Ld vw33 ((⟨vw18.heap.size, 0, none⟩ : Addr).add 3) Value.string fun (x37 : ByteArray) =>
    Ld vw33 ((⟨vw18.heap.size, 0, none⟩ : Addr).add 4) Slc.v fun (x38 : Slc) =>
    Ld vw33 ((⟨vw18.heap.size, 0, none⟩ : Addr).add 5) Slc.v fun (x39 : Slc) =>
    C25 (x34, x35, x36, x37, x38, x39) vw33 fun r40 vw41 =>
      I19 (IntKind.i64.wrap (s17.1 + r40), IntKind.i64.wrap (s17.2 + 1)) vw41) (R s17.1 vw18)
def S25L2 (w : World) (x10 : Slc) (R : Int → World → Prop) (I13 : (Int × Int) → World → Prop) (s11 : Int × Int) (vw12 : World) : Prop :=
  Br (decide (s11.2 < ((x10.len : Nat) : Int))) (0 ≤ s11.2 ∧ s11.2 < (x10.len : Nat) ∧ Nn x10.p fun a14 =>
    Ld vw12 (a14.add ((s11.2).toNat * 1)) Value.string fun (x15 : ByteArray) =>
    I13 (IntKind.i64.wrap (s11.1 + (IntKind.i64.wrap (Int.tdiv (((x15).size : Nat) : Int) 50))), IntKind.i64.wrap (s11.2 + 1)) vw12) (Ld vw12 ((⟨w.heap.size, 0, none⟩ : Addr).add 5) Slc.v fun (x16 : Slc) =>
    Lp (σ := Int × Int) (S25L1 x16 R) (s11.1, 0) vw12)
/-- foliant/foliantref05.Size -/
def S25 (o1 : Int × Int × Int × ByteArray × Slc × Slc) (w : World) (R : Int → World → Prop) : Prop :=
  Nw w (.cells #[.int .i64 (o1.1), .int .i64 (o1.2.1), .int .i64 (o1.2.2.1), .string o1.2.2.2.1, Slc.v o1.2.2.2.2.1, Slc.v o1.2.2.2.2.2] 61) fun vw2 =>
  Ld vw2 ((⟨w.heap.size, 0, none⟩ : Addr).add 3) Value.string fun (x3 : ByteArray) =>
  Ld vw2 ((⟨w.heap.size, 0, none⟩ : Addr).add 4) Slc.v fun (x10 : Slc) =>
  Lp (σ := Int × Int) (S25L2 w x10 R) (IntKind.i64.wrap (1 + (IntKind.i64.wrap (Int.tdiv (((x3).size : Nat) : Int) 50))), 0) vw2
def pl25 : Plan := (.seq (.reg .seq) (.seq (.reg .seq) (.seq (.seq (.reg .seq) (.block (.loop [(3, (.one (.int .i64))), (16, (.one (.int .i64)))] [1, 14, 15] (.seq (.reg .seq) (.seq (.cond .leaf .leaf) (.seq (.block (.seq (.reg .seq) (.reg .seq))) (.reg .seq))))))) (.seq (.seq (.reg .seq) (.block (.loop [(3, (.one (.int .i64))), (29, (.one (.int .i64)))] [27, 28] (.seq (.reg .seq) (.seq (.cond .leaf .leaf) (.seq (.block (.seq (.reg .seq) (.reg .seq))) (.reg .seq))))))) (.seq (.reg .seq) .leaf)))))
set_option maxRecDepth 100000 in
theorem T25 (o1 : Int × Int × Int × ByteArray × Slc × Slc) (w : World) (R : Int → World → Prop) (h : S25 o1 w R) : C25 (o1.1, o1.2.1, o1.2.2.1, o1.2.2.2.1, o1.2.2.2.2.1, o1.2.2.2.2.2) w R := by
  have e : fnT Tryz.prog ⟨FF, MAY, (fun _ _ => False)⟩ pl25 Tryz.f25 [.agg #[.int .i64 (o1.1), .int .i64 (o1.2.1), .int .i64 (o1.2.2.1), .string o1.2.2.2.1, Slc.v o1.2.2.2.2.1, Slc.v o1.2.2.2.2.2]] w [(.one (.int .i64))] (fun s w => R s w) = S25 o1 w R := by kernel_rfl
  exact (fn_calls okF okM Tryz.func25 (by kernel_rfl) (by kernel_rfl) (e.mpr h)).mono fun _ _ ⟨s, he, hR⟩ => ⟨s, he, hR⟩

def S9L1 (s22 : Int) (I24 : Int → World → Prop) (x57 : Slc) (R : Bool → World → Prop) (I60 : Int → World → Prop) (s58 : Int) (vw59 : World) : Prop :=
  Br (decide (s58 < ((x57.len : Nat) : Int))) (0 ≤ s58 ∧ s58 < (x57.len : Nat) ∧ Nn x57.p fun a61 =>
    Ld vw59 (a61.add ((s58).toNat * 6)) (Value.int .i64) fun (x62 : Int) =>
    Ld vw59 ((a61.add ((s58).toNat * 6)).add 1) (Value.int .i64) fun (x63 : Int) =>
    Ld vw59 ((a61.add ((s58).toNat * 6)).add 2) (Value.int .i64) fun (x64 : Int) =>
    Ld vw59 ((a61.add ((s58).toNat * 6)).add 3) Value.string fun (x65 : ByteArray) =>
    Ld vw59 ((a61.add ((s58).toNat * 6)).add 4) Slc.v fun (x66 : Slc) =>
    Ld vw59 ((a61.add ((s58).toNat * 6)).add 5) Slc.v fun (x67 : Slc) =>
    Nw vw59 (.cells #[.int .i64 0, .int .i64 0, .int .i64 0, .string ((⟨#[]⟩ : ByteArray)), Slc.v ((⟨none, 0, 0⟩ : Slc)), Slc.v ((⟨none, 0, 0⟩ : Slc))] 61) fun vw68 =>
    St vw68 (⟨vw59.heap.size, 0, none⟩ : Addr) (.int .i64 x62) fun vw69 =>
    St vw69 ((⟨vw59.heap.size, 0, none⟩ : Addr).add 1) (.int .i64 x63) fun vw70 =>
    St vw70 ((⟨vw59.heap.size, 0, none⟩ : Addr).add 2) (.int .i64 x64) fun vw71 =>
    St vw71 ((⟨vw59.heap.size, 0, none⟩ : Addr).add 3) (.string x65) fun vw72 =>
    St vw72 ((⟨vw59.heap.size, 0, none⟩ : Addr).add 4) (Slc.v x66) fun vw73 =>
    St vw73 ((⟨vw59.heap.size, 0, none⟩ : Addr).add 5) (Slc.v x67) fun vw74 =>
    Ld vw74 ((⟨vw59.heap.size, 0, none⟩ : Addr).add 3) Value.string fun (x75 : ByteArray) =>
    Br (decide ((((x75).size : Nat) : Int) > 100)) (R false vw74) (I60 (IntKind.i64.wrap (s58 + 1)) vw74)) (I24 (IntKind.i64.wrap (s22 + 1)) vw59)
def S9L2 (s10 : Int) (I12 : Int → World → Prop) (x21 : Slc) (R : Bool → World → Prop) (I24 : Int → World → Prop) (s22 : Int) (vw23 : World) : Prop :=
  Br (decide (s22 < ((x21.len : Nat) : Int))) (0 ≤ s22 ∧ s22 < (x21.len : Nat) ∧ Nn x21.p fun a25 =>
    Ld vw23 (a25.add ((s22).toNat * 6)) (Value.int .i64) fun (x26 : Int) =>
    Ld vw23 ((a25.add ((s22).toNat * 6)).add 1) (Value.int .i64) fun (x27 : Int) =>
    Ld vw23 ((a25.add ((s22).toNat * 6)).add 2) (Value.int .i64) fun (x28 : Int) =>
    Ld vw23 ((a25.add ((s22).toNat * 6)).add 3) Value.string fun (x29 : ByteArray) =>
    Ld vw23 ((a25.add ((s22).toNat * 6)).add 4) Slc.v fun (x30 : Slc) =>
    Ld vw23 ((a25.add ((s22).toNat * 6)).add 5) Slc.v fun (x31 : Slc) =>
    Nw vw23 (.cells #[.int .i64 0, .int .i64 0, .int .i64 0, .string ((⟨#[]⟩ : ByteArray)), Slc.v ((⟨none, 0, 0⟩ : Slc)), Slc.v ((⟨none, 0, 0⟩ : Slc))] 61) fun vw32 =>
    St vw32 (⟨vw23.heap.size, 0, none⟩ : Addr) (.int .i64 x26) fun vw33 =>
    St vw33 ((⟨vw23.heap.size, 0, none⟩ : Addr).add 1) (.int .i64 x27) fun vw34 =>
    St vw34 ((⟨vw23.heap.size, 0, none⟩ : Addr).add 2) (.int .i64 x28) fun vw35 =>
    St vw35 ((⟨vw23.heap.size, 0, none⟩ : Addr).add 3) (.string x29) fun vw36 =>
    St vw36 ((⟨vw23.heap.size, 0, none⟩ : Addr).add 4) (Slc.v x30) fun vw37 =>
    St vw37 ((⟨vw23.heap.size, 0, none⟩ : Addr).add 5) (Slc.v x31) fun vw38 =>
    Ld vw38 (⟨vw23.heap.size, 0, none⟩ : Addr) (Value.int .i64) fun (x48 : Int) =>
    Ld vw38 ((⟨vw23.heap.size, 0, none⟩ : Addr).add 1) (Value.int .i64) fun (x49 : Int) =>
    Ld vw38 ((⟨vw23.heap.size, 0, none⟩ : Addr).add 2) (Value.int .i64) fun (x50 : Int) =>
    Ld vw38 ((⟨vw23.heap.size, 0, none⟩ : Addr).add 3) Value.string fun (x51 : ByteArray) =>
    Ld vw38 ((⟨vw23.heap.size, 0, none⟩ : Addr).add 4) Slc.v fun (x52 : Slc) =>
    Ld vw38 ((⟨vw23.heap.size, 0, none⟩ : Addr).add 5) Slc.v fun (x53 : Slc) =>
    C25 (x48, x49, x50, x51, x52, x53) vw38 fun r54 vw55 =>
      Br (decide (r54 > 40)) (R false vw55) (Ld vw55 ((⟨vw23.heap.size, 0, none⟩ : Addr).add 3) Value.string fun (x56 : ByteArray) =>
        Br (decide ((((x56).size : Nat) : Int) > 200)) (R false vw55) (Ld vw55 ((⟨vw23.heap.size, 0, none⟩ : Addr).add 5) Slc.v fun (x57 : Slc) =>
          Lp (σ := Int) (S9L1 s22 I24 x57 R) 0 vw55))) (I12 (IntKind.i64.wrap (s10 + 1)) vw23)
def S9L3 (l1 : Slc) (R : Bool → World → Prop) (I12 : Int → World → Prop) (s10 : Int) (vw11 : World) : Prop :=
  Br (decide (s10 < ((l1.len : Nat) : Int))) (0 ≤ s10 ∧ s10 < (l1.len : Nat) ∧ Nn l1.p fun a13 =>
    Ld vw11 (a13.add ((s10).toNat * 3)) Value.string fun (x14 : ByteArray) =>
    Ld vw11 ((a13.add ((s10).toNat * 3)).add 1) Slc.v fun (x15 : Slc) =>
    Ld vw11 ((a13.add ((s10).toNat * 3)).add 2) Value.string fun (x16 : ByteArray) =>
    Nw vw11 (.cells #[.string ((⟨#[]⟩ : ByteArray)), Slc.v ((⟨none, 0, 0⟩ : Slc)), .string ((⟨#[]⟩ : ByteArray))] 48) fun vw17 =>
    St vw17 (⟨vw11.heap.size, 0, none⟩ : Addr) (.string x14) fun vw18 =>
    St vw18 ((⟨vw11.heap.size, 0, none⟩ : Addr).add 1) (Slc.v x15) fun vw19 =>
    St vw19 ((⟨vw11.heap.size, 0, none⟩ : Addr).add 2) (.string x16) fun vw20 =>
    Ld vw20 ((⟨vw11.heap.size, 0, none⟩ : Addr).add 1) Slc.v fun (x21 : Slc) =>
    Lp (σ := Int) (S9L2 s10 I12 x21 R) 0 vw20) (R true vw11)
/-- foliant/foliantlaw48.small -/
def S9 (l1 : Slc) (f2 : TyA34) (w : World) (R : Bool → World → Prop) : Prop :=
  Nw w (.cells (Sig.cells LiA34 f2).toArray 35) fun vw3 =>
  Br (decide (((l1.len : Nat) : Int) > 30)) (R false vw3) (Ld vw3 ((⟨w.heap.size, 0, none⟩ : Addr).add 3) Slc.v fun (x7 : Slc) =>
    Br (decide (((x7.len : Nat) : Int) > 400)) (R false vw3) (Ld vw3 ((⟨w.heap.size, 0, none⟩ : Addr).add 6) Slc.v fun (x8 : Slc) =>
      Br (decide (((x8.len : Nat) : Int) > 100)) (R false vw3) (Ld vw3 ((⟨w.heap.size, 0, none⟩ : Addr).add 5) Slc.v fun (x9 : Slc) =>
        Br (decide (((x9.len : Nat) : Int) > 300)) (R false vw3) (Lp (σ := Int) (S9L3 l1 R) 0 vw3))))
def pl9 : Plan := (.seq (.reg .seq) (.seq (.seq (.reg .seq) (.cond (.seq (.reg .seq) .leaf) .leaf)) (.seq (.seq (.reg .seq) (.block (.loop [(34, (.one (.int .i64)))] [32, 33] (.seq (.reg .seq) (.seq (.cond .leaf .leaf) (.seq (.block (.seq (.reg .seq) (.seq (.reg .seq) (.block (.loop [(41, (.one (.int .i64)))] [32, 33, 34, 39, 40] (.seq (.reg .seq) (.seq (.cond .leaf .leaf) (.seq (.block (.seq (.reg .seq) (.seq (.seq (.reg .seq) (.cond (.seq (.reg .seq) .leaf) .leaf)) (.seq (.reg .seq) (.block (.loop [(57, (.one (.int .i64)))] [32, 33, 34, 39, 40, 41, 55, 56] (.seq (.reg .seq) (.seq (.cond .leaf .leaf) (.seq (.block (.seq (.reg .seq) (.seq (.reg .seq) (.cond (.seq (.reg .seq) .leaf) .leaf)))) (.reg .seq)))))))))) (.reg .seq))))))))) (.reg .seq))))))) (.seq (.reg .seq) .leaf))))
set_option maxRecDepth 100000 in
theorem T9 (l1 : Slc) (f2 : TyA34) (w : World) (R : Bool → World → Prop) (h : S9 l1 f2 w R) : C9 l1 f2 w R := by
  have e : fnT Tryz.prog ⟨FF, MAY, (fun _ _ => False)⟩ pl9 Tryz.f9 [Slc.v l1, .agg (Sig.cells LiA34 f2).toArray] w [(.one .bool)] (fun s w => R s w) = S9 l1 f2 w R := by kernel_rfl
  exact (fn_calls okF okM Tryz.func9 (by kernel_rfl) (by kernel_rfl) (e.mpr h)).mono fun _ _ ⟨s, he, hR⟩ => ⟨s, he, hR⟩

def S6L1 (w : World) (vw4 : World) (s64 : Slc × Addr × Int) (R : Bool → World → Prop) (I105 : (Int × Int) → World → Prop) (s103 : Int × Int) (vw104 : World) : Prop :=
  Br (decide (s103.2 < ((s64.1.len : Nat) : Int))) (0 ≤ s103.2 ∧ s103.2 < (s64.1.len : Nat) ∧ Nn s64.1.p fun a106 =>
    LdT vw104 (a106.add ((s103.2).toNat * 9)) 0 LiA69 fun (x107 : TyA69) =>
    Nw vw104 (.cells #[.int .i64 0, .string ((⟨#[]⟩ : ByteArray)), .int .i64 0, .int .i64 0, .int .i64 0, .int .i64 0, .int .i64 0, .string ((⟨#[]⟩ : ByteArray)), .int .i64 0] 70) fun vw108 =>
    StT (⟨vw104.heap.size, 0, none⟩ : Addr) 0 LiA69 x107 vw108 fun vw109 =>
    LdT vw109 (⟨w.heap.size, 0, none⟩ : Addr) 0 LiA30 fun (x110 : TyA30) =>
    LdT vw109 (⟨vw4.heap.size, 0, none⟩ : Addr) 0 LiA34 fun (x111 : TyA34) =>
    Ld vw109 (⟨vw104.heap.size, 0, none⟩ : Addr) (Value.int .i64) fun (x112 : Int) =>
    C11 x110 x111 x112 vw109 fun r113 r114 vw115 =>
      LdT vw115 (⟨w.heap.size, 0, none⟩ : Addr) 0 LiA30 fun (x116 : TyA30) =>
      Nw vw115 (.cells #[.int .i64 0, .int .i64 0, .int .i64 0, .int .i64 0, .int .i64 0, .int .i64 0, .int .i64 0, .int .i64 0, .int .i64 0, .int .i64 0, Slc.v ((⟨none, 0, 0⟩ : Slc)), .int .i64 0, .int .i64 0, .int .i64 0, .int .i64 0, .int .i64 0, .int .i64 0, .int .i64 0, .int .i64 0, .int .i64 0, .int .i64 0, .int .i64 0, .int .i64 0, .int .i64 0, .int .i64 0, .int .i64 0, .int .i64 0, .int .i64 0, .string ((⟨#[]⟩ : ByteArray)), .int .i64 0] 31) fun vw117 =>
      StT (⟨vw115.heap.size, 0, none⟩ : Addr) 0 LiA30 x116 vw117 fun vw118 =>
      St vw118 ((⟨vw115.heap.size, 0, none⟩ : Addr).add 22) (.int .i64 0) fun vw119 =>
      St vw119 (((⟨vw115.heap.size, 0, none⟩ : Addr).add 22).add 1) (.int .i64 0) fun vw120 =>
      LdT vw120 (⟨vw115.heap.size, 0, none⟩ : Addr) 0 LiA30 fun (x121 : TyA30) =>
      LdT vw120 (⟨vw4.heap.size, 0, none⟩ : Addr) 0 LiA34 fun (x122 : TyA34) =>
      Ld vw120 (⟨vw104.heap.size, 0, none⟩ : Addr) (Value.int .i64) fun (x123 : Int) =>
      C11 x121 x122 x123 vw120 fun r124 r125 vw126 =>
        Br (r114 != 0) (R false vw126) (Br (r125 != 0) (R false vw126) (Ld vw126 ((⟨vw104.heap.size, 0, none⟩ : Addr).add 2) (Value.int .i64) fun (x127 : Int) =>
            Ld vw126 (((⟨vw104.heap.size, 0, none⟩ : Addr).add 2).add 1) (Value.int .i64) fun (x128 : Int) =>
            Ld vw126 (((⟨w.heap.size, 0, none⟩ : Addr).add 22).add 5) (Value.int .i64) fun (x129 : Int) =>
            Br (!((x127 == s103.1) && ((x128 == x129) && true))) (R false vw126) (Ld vw126 ((⟨vw104.heap.size, 0, none⟩ : Addr).add 4) (Value.int .i64) fun (x130 : Int) =>
              Ld vw126 (((⟨vw104.heap.size, 0, none⟩ : Addr).add 4).add 1) (Value.int .i64) fun (x131 : Int) =>
              Ld vw126 (((⟨w.heap.size, 0, none⟩ : Addr).add 22).add 5) (Value.int .i64) fun (x132 : Int) =>
              Br (!((x130 == (IntKind.i64.wrap (s103.1 + r124))) && ((x131 == x132) && true))) (R false vw126) (Ld vw126 ((⟨vw104.heap.size, 0, none⟩ : Addr).add 6) (Value.int .i64) fun (x133 : Int) =>
                Ld vw126 (((⟨w.heap.size, 0, none⟩ : Addr).add 22).add 4) (Value.int .i64) fun (x134 : Int) =>
                Ld vw126 (((⟨w.heap.size, 0, none⟩ : Addr).add 22).add 4) (Value.int .i64) fun (x135 : Int) =>
                Lt (x133 != (if (IntKind.i64.wrap (0 - x135)) > x134 then (IntKind.i64.wrap (0 - x135)) else x134)) fun (x136 : Bool) =>
                Br x136 (R false vw126) (Ld vw126 ((⟨vw104.heap.size, 0, none⟩ : Addr).add 7) Value.string fun (x137 : ByteArray) =>
                  Ld vw126 (((⟨w.heap.size, 0, none⟩ : Addr).add 22).add 6) Value.string fun (x138 : ByteArray) =>
                  Br (!(x137.toList == x138.toList)) (R false vw126) (Ld vw126 ((⟨vw104.heap.size, 0, none⟩ : Addr).add 8) (Value.int .i64) fun (x139 : Int) =>
                    Ld vw126 (((⟨w.heap.size, 0, none⟩ : Addr).add 22).add 7) (Value.int .i64) fun (x140 : Int) =>
                    Br (x139 != x140) (R false vw126) (I105 (IntKind.i64.wrap (s103.1 + r113), IntKind.i64.wrap (s103.2 + 1)) vw126)))))))) (∃ vS141 : World → Prop, vS141 vw104.drew ∧ LdS vS141 s64.2.1 (Value.int .i64) fun (x142 : Int) =>
    LdS vS141 (s64.2.1.add 1) (Value.int .i64) fun (x143 : Int) =>
    LdS vS141 (s64.2.1.add 2) (Value.int .i64) fun (x144 : Int) =>
    LdS vS141 (s64.2.1.add 3) (Value.int .i64) fun (x145 : Int) =>
    LdS vS141 (s64.2.1.add 4) (Value.int .i64) fun (x146 : Int) =>
    LdS vS141 (s64.2.1.add 5) (Value.int .i64) fun (x147 : Int) =>
    C20 s103.1 0 vw104.drew fun r148 vw149 =>
      vS141 vw149 ∧ R ((x142 == r148.1) && ((x143 == r148.2.1) && ((x144 == r148.2.2.1) && ((x145 == r148.2.2.2.1) && ((x146 == r148.2.2.2.2.1) && ((x147 == r148.2.2.2.2.2) && true)))))) vw149)
def S6J1 (w : World) (vw4 : World) (R : Bool → World → Prop) (s64 : Slc × Addr × Int) (vw65 : World) : Prop :=
  Br (s64.2.2 != 0) (R (((s64.1.len : Nat) : Int) == 0) vw65) (Lp (σ := Int × Int) (S6L1 w vw4 s64 R) (0, 0) vw65)
def S6J2 (w : World) (s3 : ByteArray) (vw4 : World) (R : Bool → World → Prop) (s14 : Unit) (vw15 : World) : Prop :=
  C22 vw15 fun r16 vw17 =>
    St vw17 (⟨w.heap.size, 0, none⟩ : Addr) (.int .i64 (r16.1)) fun vw18 =>
    St vw18 ((⟨w.heap.size, 0, none⟩ : Addr).add 1) (.int .i64 (r16.2.1)) fun vw19 =>
    St vw19 ((⟨w.heap.size, 0, none⟩ : Addr).add 2) (.int .i64 (r16.2.2.1)) fun vw20 =>
    St vw20 ((⟨w.heap.size, 0, none⟩ : Addr).add 3) (.int .i64 (r16.2.2.2.1)) fun vw21 =>
    St vw21 ((⟨w.heap.size, 0, none⟩ : Addr).add 4) (.int .i64 (r16.2.2.2.2.1)) fun vw22 =>
    St vw22 ((⟨w.heap.size, 0, none⟩ : Addr).add 5) (.int .i64 (r16.2.2.2.2.2)) fun vw23 =>
    Join (S6J1 w vw4 R) fun (vJ150 : (Slc × Addr × Int) → World → Prop) =>
      ∃ vS151 : World → Prop, vS151 vw23.drew ∧ LdST vS151 (⟨w.heap.size, 0, none⟩ : Addr) 0 LiA30 fun (x152 : TyA30) =>
      LdST vS151 (⟨vw4.heap.size, 0, none⟩ : Addr) 0 LiA34 fun (x153 : TyA34) =>
      (C22 vw23.drew fun r154 vw155 =>
          vS151 vw155 ∧ (C23 x152 (r154.1, r154.2.1, r154.2.2.1, r154.2.2.2.1, r154.2.2.2.2.1, r154.2.2.2.2.2) x153 s3 vw155 fun r156 r157 r158 vw159 =>
              Nw vw159 (.cells #[.int .i64 0, .int .i64 0, .int .i64 0, .int .i64 0, .int .i64 0, .int .i64 0] 24) fun vw160 =>
              St vw160 (⟨vw159.heap.size, 0, none⟩ : Addr) (.int .i64 (r157.1)) fun vw161 =>
              St vw161 ((⟨vw159.heap.size, 0, none⟩ : Addr).add 1) (.int .i64 (r157.2.1)) fun vw162 =>
              St vw162 ((⟨vw159.heap.size, 0, none⟩ : Addr).add 2) (.int .i64 (r157.2.2.1)) fun vw163 =>
              St vw163 ((⟨vw159.heap.size, 0, none⟩ : Addr).add 3) (.int .i64 (r157.2.2.2.1)) fun vw164 =>
              St vw164 ((⟨vw159.heap.size, 0, none⟩ : Addr).add 4) (.int .i64 (r157.2.2.2.2.1)) fun vw165 =>
              St vw165 ((⟨vw159.heap.size, 0, none⟩ : Addr).add 5) (.int .i64 (r157.2.2.2.2.2)) fun vw166 =>
              vJ150 (r156, (⟨vw159.heap.size, 0, none⟩ : Addr), r158) vw166) ∧
          (Nw vw155 (.cells #[.int .i64 0, .int .i64 0, .int .i64 0, .int .i64 0, .int .i64 0, .int .i64 0] 24) fun vw167 =>
            vS151 vw167 ∧ C23 x152 (r154.1, r154.2.1, r154.2.2.1, r154.2.2.2.1, r154.2.2.2.2.1, r154.2.2.2.2.2) x153 s3 vw167 fun r168 r169 r170 vw171 =>
              St vw171 (⟨vw155.heap.size, 0, none⟩ : Addr) (.int .i64 (r169.1)) fun vw172 =>
              St vw172 ((⟨vw155.heap.size, 0, none⟩ : Addr).add 1) (.int .i64 (r169.2.1)) fun vw173 =>
              St vw173 ((⟨vw155.heap.size, 0, none⟩ : Addr).add 2) (.int .i64 (r169.2.2.1)) fun vw174 =>
              St vw174 ((⟨vw155.heap.size, 0, none⟩ : Addr).add 3) (.int .i64 (r169.2.2.2.1)) fun vw175 =>
              St vw175 ((⟨vw155.heap.size, 0, none⟩ : Addr).add 4) (.int .i64 (r169.2.2.2.2.1)) fun vw176 =>
              St vw176 ((⟨vw155.heap.size, 0, none⟩ : Addr).add 5) (.int .i64 (r169.2.2.2.2.2)) fun vw177 =>
              vJ150 (r168, (⟨vw155.heap.size, 0, none⟩ : Addr), r170) vw177)) ∧
      (Nw vw23.drew (.cells #[.int .i64 0, .int .i64 0, .int .i64 0, .int .i64 0, .int .i64 0, .int .i64 0] 24) fun vw178 =>
        vS151 vw178 ∧ C22 vw178 fun r179 vw180 =>
          vS151 vw180 ∧ C23 x152 (r179.1, r179.2.1, r179.2.2.1, r179.2.2.2.1, r179.2.2.2.2.1, r179.2.2.2.2.2) x153 s3 vw180 fun r181 r182 r183 vw184 =>
            St vw184 (⟨vw23.drew.heap.size, 0, none⟩ : Addr) (.int .i64 (r182.1)) fun vw185 =>
            St vw185 ((⟨vw23.drew.heap.size, 0, none⟩ : Addr).add 1) (.int .i64 (r182.2.1)) fun vw186 =>
            St vw186 ((⟨vw23.drew.heap.size, 0, none⟩ : Addr).add 2) (.int .i64 (r182.2.2.1)) fun vw187 =>
            St vw187 ((⟨vw23.drew.heap.size, 0, none⟩ : Addr).add 3) (.int .i64 (r182.2.2.2.1)) fun vw188 =>
            St vw188 ((⟨vw23.drew.heap.size, 0, none⟩ : Addr).add 4) (.int .i64 (r182.2.2.2.2.1)) fun vw189 =>
            St vw189 ((⟨vw23.drew.heap.size, 0, none⟩ : Addr).add 5) (.int .i64 (r182.2.2.2.2.2)) fun vw190 =>
            vJ150 (r181, (⟨vw23.drew.heap.size, 0, none⟩ : Addr), r183) vw190)
/-- foliant/foliantlaw48.ShowPlaces -/
def S6 (g1 : TyA30) (f2 : TyA34) (s3 : ByteArray) (w : World) (R : Bool → World → Prop) : Prop :=
  Nw w (.cells (Sig.cells LiA30 g1).toArray 31) fun vw4 =>
  Nw vw4 (.cells (Sig.cells LiA34 f2).toArray 35) fun vw5 =>
  C10 vw5 fun r8 vw9 =>
    Br (!r8) (R false vw9) (Join (S6J2 w s3 vw4 R) fun (vJ191 : Unit → World → Prop) =>
        LdT vw9 (⟨vw4.heap.size, 0, none⟩ : Addr) 0 LiA34 fun (x192 : TyA34) =>
        C9 (⟨none, 0, 0⟩ : Slc) x192 vw9 fun r193 vw194 =>
          Br (!r193) (R true vw194) (Br (decide ((((s3).size : Nat) : Int) > 100)) (R true vw194) (Ld vw194 ((⟨vw4.heap.size, 0, none⟩ : Addr).add 1) Value.bool fun (x195 : Bool) =>
              Br x195 (Br ((Int.tmod (((s3).size : Nat) : Int) 2) != 0) (R true vw194) (vJ191 () vw194)) (vJ191 () vw194))))
def pl6 : Plan := (.seq (.reg .seq) (.seq (.seq (.reg .seq) (.cond (.seq (.reg .seq) .leaf) .leaf)) (.join [] [2, 3, 4] (.seq (.reg .seq) (.cond (.seq (.reg .seq) .leaf) .leaf)) (.seq (.reg .seq) (.join [(7, (.one .slc)), (8, (.one .addr)), (9, (.one (.int .i64)))] [3, 4] (.reg (.held [4] (.take 0 (.take 2 (.take 3 (.effs 1 none (.effs 4 (some [9]) (.take 5 (.take 6 (.take 7 (.take 8 (.eff 9 (some [11]) (.take 10 (.eff 11 (some []) (.take 12 .done)))))))) (.eff 9 none (.eff 4 (some [11]) (.take 5 (.take 6 (.take 7 (.take 8 (.take 10 (.eff 11 (some []) (.take 12 .done)))))))))) (.eff 9 none (.eff 1 none (.eff 4 (some [11]) (.take 5 (.take 6 (.take 7 (.take 8 (.take 10 (.eff 11 (some []) (.take 12 .done)))))))))))))))) (.seq (.seq (.reg .seq) (.cond (.seq (.reg .seq) .leaf) .leaf)) (.seq (.reg .seq) (.seq (.seq (.reg .seq) (.block (.loop [(10, (.one (.int .i64))), (56, (.one (.int .i64)))] [3, 4, 8, 54, 55] (.seq (.reg .seq) (.seq (.cond .leaf .leaf) (.seq (.block (.seq (.reg .seq) (.seq (.reg .seq) (.seq (.reg .seq) (.seq (.reg .seq) (.seq (.reg .seq) (.seq (.seq (.reg .seq) (.cond (.seq (.reg .seq) .leaf) .leaf)) (.reg .seq)))))))) (.reg .seq))))))) (.seq (.reg (.held [] (.take 0 (.take 1 (.eff 2 none (.take 3 (.take 4 .done))))))) .leaf)))))))))
set_option maxRecDepth 100000 in
theorem T6 (g1 : TyA30) (f2 : TyA34) (s3 : ByteArray) (w : World) (R : Bool → World → Prop) (h : S6 g1 f2 s3 w R) : C6 g1 f2 s3 w R := by
  have e : fnT Tryz.prog ⟨FF, MAY, (fun _ _ => False)⟩ pl6 Tryz.f6 [.agg (Sig.cells LiA30 g1).toArray, .agg (Sig.cells LiA34 f2).toArray, .string s3] w [(.one .bool)] (fun s w => R s w) = S6 g1 f2 s3 w R := by kernel_rfl
  exact (fn_calls okF okM Tryz.func6 (by kernel_rfl) (by kernel_rfl) (e.mpr h)).mono fun _ _ ⟨s, he, hR⟩ => ⟨s, he, hR⟩

/-- foliant/foliantlaw48.pair -/
def S19 (name1 : ByteArray) (a2 : Int) (b3 : Int) (w : World) (R : (ByteArray × Slc × ByteArray) → World → Prop) : Prop :=
  Nw w (.cells #[.string ((⟨#[]⟩ : ByteArray)), Slc.v ((⟨none, 0, 0⟩ : Slc)), .string ((⟨#[]⟩ : ByteArray))] 48) fun vw4 =>
  Nw vw4 (.cells #[.int .i64 3, .int .i64 a2, .int .i64 0, .string ((⟨#[]⟩ : ByteArray)), Slc.v ((⟨none, 0, 0⟩ : Slc)), Slc.v ((⟨none, 0, 0⟩ : Slc)), .int .i64 3, .int .i64 b3, .int .i64 0, .string ((⟨#[]⟩ : ByteArray)), Slc.v ((⟨none, 0, 0⟩ : Slc)), Slc.v ((⟨none, 0, 0⟩ : Slc))] 61) fun vw5 =>
  St vw5 (⟨w.heap.size, 0, none⟩ : Addr) (.string name1) fun vw6 =>
  St vw6 ((⟨w.heap.size, 0, none⟩ : Addr).add 1) (Slc.v ((⟨some ⟨vw4.heap.size, 0, none⟩, 2, 2⟩ : Slc))) fun vw7 =>
  St vw7 ((⟨w.heap.size, 0, none⟩ : Addr).add 2) (.string ((⟨#[]⟩ : ByteArray))) fun vw8 =>
  Ld vw8 (⟨w.heap.size, 0, none⟩ : Addr) Value.string fun (x9 : ByteArray) =>
  Ld vw8 ((⟨w.heap.size, 0, none⟩ : Addr).add 1) Slc.v fun (x10 : Slc) =>
  Ld vw8 ((⟨w.heap.size, 0, none⟩ : Addr).add 2) Value.string fun (x11 : ByteArray) =>
  R (x9, x10, x11) vw8
def pl19 : Plan := (.seq (.reg .seq) (.seq (.reg .seq) .leaf))
set_option maxRecDepth 100000 in
theorem T19 (name1 : ByteArray) (a2 : Int) (b3 : Int) (w : World) (R : (ByteArray × Slc × ByteArray) → World → Prop) (h : S19 name1 a2 b3 w R) : C19 name1 a2 b3 w R := by
  have e : fnT Tryz.prog ⟨FF, MAY, (fun _ _ => False)⟩ pl19 Tryz.f19 [.string name1, .int .i64 a2, .int .i64 b3] w [(.agg [.str, .slc, .str])] (fun s w => R s w) = S19 name1 a2 b3 w R := by kernel_rfl
  exact (fn_calls okF okM Tryz.func19 (by kernel_rfl) (by kernel_rfl) (e.mpr h)).mono fun _ _ ⟨s, he, hR⟩ => ⟨s, he, hR⟩

def S18L1 (w : World) (vw5 : World) (R : Int → World → Prop) (I15 : Int → World → Prop) (s13 : Int) (vw14 : World) : Prop :=
  Br (decide (s13 < (((⟨some ⟨vw5.heap.size, 0, none⟩, 6, 6⟩ : Slc).len : Nat) : Int))) (0 ≤ s13 ∧ s13 < ((⟨some ⟨vw5.heap.size, 0, none⟩, 6, 6⟩ : Slc).len : Nat) ∧ Nn (⟨some ⟨vw5.heap.size, 0, none⟩, 6, 6⟩ : Slc).p fun a16 =>
    Ld vw14 (a16.add ((s13).toNat * 1)) (Value.int .i64) fun (x17 : Int) =>
    Br (decide (x17 < (-1073741824))) (R 2 vw14) (Br (decide (x17 > 1073741824)) (R 2 vw14) (I15 (IntKind.i64.wrap (s13 + 1)) vw14))) (Ld vw14 (⟨w.heap.size, 0, none⟩ : Addr) (Value.int .i64) fun (x18 : Int) =>
    Ld vw14 ((⟨w.heap.size, 0, none⟩ : Addr).add 1) (Value.int .i64) fun (x19 : Int) =>
    Ld vw14 ((⟨w.heap.size, 0, none⟩ : Addr).add 2) (Value.int .i64) fun (x20 : Int) =>
    Ld vw14 ((⟨w.heap.size, 0, none⟩ : Addr).add 3) (Value.int .i64) fun (x21 : Int) =>
    Ld vw14 ((⟨w.heap.size, 0, none⟩ : Addr).add 4) (Value.int .i64) fun (x22 : Int) =>
    Ld vw14 ((⟨w.heap.size, 0, none⟩ : Addr).add 5) (Value.int .i64) fun (x23 : Int) =>
    C49 (x18, x19, x20, x21, x22, x23) vw14 fun r24 vw25 =>
      R r24 vw25)
/-- foliant/foliantref48.May -/
def S18 (g1 : TyA30) (w : World) (R : Int → World → Prop) : Prop :=
  Nw w (.cells (Sig.cells LiA30 g1).toArray 31) fun vw2 =>
  LdT vw2 ((⟨w.heap.size, 0, none⟩ : Addr).add 22) 0 LiA28 fun (x3 : TyA28) =>
  Nw vw2 (.cells #[.int .i64 0, .int .i64 0, .int .i64 0, .int .i64 0, .int .i64 0, .int .i64 0, .string ((⟨#[]⟩ : ByteArray)), .int .i64 0] 29) fun vw4 =>
  StT (⟨vw2.heap.size, 0, none⟩ : Addr) 0 LiA28 x3 vw4 fun vw5 =>
  Ld vw5 (⟨vw2.heap.size, 0, none⟩ : Addr) (Value.int .i64) fun (x6 : Int) =>
  Ld vw5 ((⟨vw2.heap.size, 0, none⟩ : Addr).add 1) (Value.int .i64) fun (x7 : Int) =>
  Ld vw5 ((⟨vw2.heap.size, 0, none⟩ : Addr).add 2) (Value.int .i64) fun (x8 : Int) =>
  Ld vw5 ((⟨vw2.heap.size, 0, none⟩ : Addr).add 3) (Value.int .i64) fun (x9 : Int) =>
  Ld vw5 ((⟨vw2.heap.size, 0, none⟩ : Addr).add 4) (Value.int .i64) fun (x10 : Int) =>
  Ld vw5 ((⟨vw2.heap.size, 0, none⟩ : Addr).add 5) (Value.int .i64) fun (x11 : Int) =>
  Nw vw5 (.cells #[.int .i64 x6, .int .i64 x7, .int .i64 x8, .int .i64 x9, .int .i64 x10, .int .i64 x11] 2) fun vw12 =>
  Lp (σ := Int) (S18L1 w vw5 R) 0 vw12
def pl18 : Plan := (.seq (.reg .seq) (.seq (.reg .seq) (.seq (.seq (.reg .seq) (.block (.loop [(22, (.one (.int .i64)))] [1, 20, 21] (.seq (.reg .seq) (.seq (.cond .leaf .leaf) (.seq (.block (.seq (.reg .seq) (.seq (.reg .seq) (.cond (.seq (.reg .seq) .leaf) .leaf)))) (.reg .seq))))))) (.seq (.reg .seq) .leaf))))
set_option maxRecDepth 100000 in
theorem T18 (g1 : TyA30) (w : World) (R : Int → World → Prop) (h : S18 g1 w R) : C18 g1 w R := by
  have e : fnT Tryz.prog ⟨FF, MAY, (fun _ _ => False)⟩ pl18 Tryz.f18 [.agg (Sig.cells LiA30 g1).toArray] w [(.one (.int .i64))] (fun s w => R s w) = S18 g1 w R := by kernel_rfl
  exact (fn_calls okF okM Tryz.func18 (by kernel_rfl) (by kernel_rfl) (e.mpr h)).mono fun _ _ ⟨s, he, hR⟩ => ⟨s, he, hR⟩

end Go.Proofs.YtcblpehnkogfdaaGreatDoor
