/- The formulas of 9 functions of the program, written by program (gen.py); the kernel checks each. No condition. -/
import Derived.Test.YtcblpehnkogfdaaGreatDoorQYQDoes2
import Derived.Test.YtcblpehnkogfdaaGreatDoorQYQDoes3
import Derived.Test.YtcblpehnkogfdaaGreatDoorQYQDoes4
import Derived.Test.YtcblpehnkogfdaaGreatDoorQYQDoes5
import Derived.Test.YtcblpehnkogfdaaGreatDoorQYQDoes6
import Derived.Test.YtcblpehnkogfdaaGreatDoorQYQDoes7
import Derived.Test.YtcblpehnkogfdaaGreatDoorRows
import Derived.WalkKit
import Derived.ProofKit
import Derived.OpenShut
import Derived.Deep.DeepHandedRow
import Derived.Lib.LaidTab
import Derived.Lib.LaidU8T
import Derived.LaidMore
import Derived.ChangeSame
set_option linter.unusedVariables false
set_option linter.unusedSimpArgs false
namespace Go.Proofs.YtcblpehnkogfdaaGreatDoor
set_option maxRecDepth 100000
open Sh
set_option maxRecDepth 100000
def C26 (w : World) (R : (TyA30) -> World -> Prop) : Prop :=
 Calls Tryz.prog 26 #[] w fun e w'=> ∃ r0 : TyA30,e = .returned (.agg (Sig.cells LiA30 r0).toArray) /\ R r0 w'
theorem C26.mono {w : World} {R R' : (TyA30) -> World -> Prop} (h : C26 w R) (hr : ∀ r0 w',R r0 w' -> R' r0 w') : C26 w R' :=
 Calls.mono h fun _ _ ⟨r0,he,hR⟩=> ⟨r0,he,hr _ _ hR⟩
def C27 (w : World) (R : (TyA34) -> World -> Prop) : Prop :=
 Calls Tryz.prog 27 #[] w fun e w'=> ∃ r0 : TyA34,e = .returned (.agg (Sig.cells LiA34 r0).toArray) /\ R r0 w'
theorem C27.mono {w : World} {R R' : (TyA34) -> World -> Prop} (h : C27 w R) (hr : ∀ r0 w',R r0 w' -> R' r0 w') : C27 w R' :=
 Calls.mono h fun _ _ ⟨r0,he,hR⟩=> ⟨r0,he,hr _ _ hR⟩
def C28 (name1 : ByteArray) (s2 : ByteArray) (w : World) (R : (ByteArray × Slc × ByteArray) -> World -> Prop) : Prop :=
 Calls Tryz.prog 28 #[.string name1,.string s2] w fun e w'=> ∃ r0 : ByteArray × Slc × ByteArray,e = .returned (.agg #[.string r0.1,Slc.v r0.2.1,.string r0.2.2]) /\ R r0 w'
theorem C28.mono {name1 : ByteArray} {s2 : ByteArray} {w : World} {R R' : (ByteArray × Slc × ByteArray) -> World -> Prop} (h : C28 name1 s2 w R) (hr : ∀ r0 w',R r0 w' -> R' r0 w') : C28 name1 s2 w R' :=
 Calls.mono h fun _ _ ⟨r0,he,hR⟩=> ⟨r0,he,hr _ _ hR⟩
def C10 (w : World) (R : Bool -> World -> Prop) : Prop :=
 Calls Tryz.prog 10 #[] w fun e w'=> ∃ r0 : Bool,e = .returned (.bool r0) /\ R r0 w'
theorem C10.mono {w : World} {R R' : Bool -> World -> Prop} (h : C10 w R) (hr : ∀ r0 w',R r0 w' -> R' r0 w') : C10 w R' :=
 Calls.mono h fun _ _ ⟨r0,he,hR⟩=> ⟨r0,he,hr _ _ hR⟩
def C25 (o1 : Int × Int × Int × ByteArray × Slc × Slc) (w : World) (R : Int -> World -> Prop) : Prop :=
 Calls Tryz.prog 25 #[.agg #[.int .i64 (o1.1),.int .i64 (o1.2.1),.int .i64 (o1.2.2.1),.string o1.2.2.2.1,Slc.v o1.2.2.2.2.1,Slc.v o1.2.2.2.2.2]] w fun e w'=> ∃ r0 : Int,e = .returned (.int .i64 r0) /\ R r0 w'
theorem C25.mono {o1 : Int × Int × Int × ByteArray × Slc × Slc} {w : World} {R R' : Int -> World -> Prop} (h : C25 o1 w R) (hr : ∀ r0 w',R r0 w' -> R' r0 w') : C25 o1 w R' :=
 Calls.mono h fun _ _ ⟨r0,he,hR⟩=> ⟨r0,he,hr _ _ hR⟩
def C9 (l1 : Slc) (f2 : TyA34) (w : World) (R : Bool -> World -> Prop) : Prop :=
 Calls Tryz.prog 9 #[Slc.v l1,.agg (Sig.cells LiA34 f2).toArray] w fun e w'=> ∃ r0 : Bool,e = .returned (.bool r0) /\ R r0 w'
theorem C9.mono {l1 : Slc} {f2 : TyA34} {w : World} {R R' : Bool -> World -> Prop} (h : C9 l1 f2 w R) (hr : ∀ r0 w',R r0 w' -> R' r0 w') : C9 l1 f2 w R' :=
 Calls.mono h fun _ _ ⟨r0,he,hR⟩=> ⟨r0,he,hr _ _ hR⟩
def C19 (name1 : ByteArray) (a2 : Int) (b3 : Int) (w : World) (R : (ByteArray × Slc × ByteArray) -> World -> Prop) : Prop :=
 Calls Tryz.prog 19 #[.string name1,.int .i64 a2,.int .i64 b3] w fun e w'=> ∃ r0 : ByteArray × Slc × ByteArray,e = .returned (.agg #[.string r0.1,Slc.v r0.2.1,.string r0.2.2]) /\ R r0 w'
def C18 (g1 : TyA30) (w : World) (R : Int -> World -> Prop) : Prop :=
 Calls Tryz.prog 18 #[.agg (Sig.cells LiA30 g1).toArray] w fun e w'=> ∃ r0 : Int,e = .returned (.int .i64 r0) /\ R r0 w'
theorem C18.mono {g1 : TyA30} {w : World} {R R' : Int -> World -> Prop} (h : C18 g1 w R) (hr : ∀ r0 w',R r0 w' -> R' r0 w') : C18 g1 w R' :=
 Calls.mono h fun _ _ ⟨r0,he,hR⟩=> ⟨r0,he,hr _ _ hR⟩
def S26 (w : World) (R : (TyA30) -> World -> Prop) : Prop :=
 Nw w (.cells #[.int .i64 0,.int .i64 0,.int .i64 0,.int .i64 0,.int .i64 0,.int .i64 0,.int .i64 0,.int .i64 0,.int .i64 0,.int .i64 0,Slc.v ((⟨none,0,0⟩ : Slc)),.int .i64 0,.int .i64 0,.int .i64 0,.int .i64 0,.int .i64 0,.int .i64 0,.int .i64 0,.int .i64 0,.int .i64 0,.int .i64 0,.int .i64 0,.int .i64 0,.int .i64 0,.int .i64 0,.int .i64 0,.int .i64 0,.int .i64 0,.string (⟨#[]⟩ : ByteArray),.int .i64 0] 31) fun z1=>
 C22 z1 fun r2 z3=>
  StT ⟨w.heap.size,0,none⟩ 0 LiA30 ((r2.1,r2.2.1,r2.2.2.1,r2.2.2.2.1,r2.2.2.2.2.1,r2.2.2.2.2.2,0,0,0,0,(⟨none,0,0⟩ : Slc),0,0,0,0,0,0,0,0,0,0,0,0,0,1000000,0,100000,0,(⟨#[70]⟩ : ByteArray),0) : TyA30) z3 fun z4=>
  LdT z4 ⟨w.heap.size,0,none⟩ 0 LiA30 fun (x5 : TyA30)=>
  R x5 z4
def pl26 : Plan := (.q (.q .leaf))
theorem T26 (w : World) (R : (TyA30) -> World -> Prop) (h : S26 w R) : C26 w R := by
 have e : fnT Tryz.prog ⟨FF,MAY,(fun _ _=> False)⟩ pl26 Tryz.f26 [] w [(.agg [(.int .i64),(.int .i64),(.int .i64),(.int .i64),(.int .i64),(.int .i64),(.int .i64),(.int .i64),(.int .i64),(.int .i64),.slc,(.int .i64),(.int .i64),(.int .i64),(.int .i64),(.int .i64),(.int .i64),(.int .i64),(.int .i64),(.int .i64),(.int .i64),(.int .i64),(.int .i64),(.int .i64),(.int .i64),(.int .i64),(.int .i64),(.int .i64),.str,(.int .i64)])] (fun s w=> R s w) = S26 w R := by kernel_rfl
 exact (fn_calls okF okM Tryz.func26 (by kernel_rfl) (by kernel_rfl) (e.mpr h)).mono fun _ _ ⟨s,he,hR⟩=> ⟨s,he,hR⟩
def S27 (w : World) (R : (TyA34) -> World -> Prop) : Prop :=
 Nw w (.cells #[.string (⟨#[]⟩ : ByteArray),.bool false,.int .i64 0,Slc.v ((⟨none,0,0⟩ : Slc)),.int .i64 0,Slc.v ((⟨none,0,0⟩ : Slc)),Slc.v ((⟨none,0,0⟩ : Slc))] 35) fun z1=>
 Nw z1 (.cells #[.int .i64 500] 2) fun z2=>
 StT ⟨w.heap.size,0,none⟩ 0 LiA34 (((⟨#[70]⟩ : ByteArray),false,97,(⟨some ⟨z1.heap.size,0,none⟩,1,1⟩ : Slc),250,(⟨none,0,0⟩ : Slc),(⟨none,0,0⟩ : Slc)) : TyA34) z2 fun z3=>
 LdT z3 ⟨w.heap.size,0,none⟩ 0 LiA34 fun (x4 : TyA34)=>
 R x4 z3
def pl27 : Plan := (.q (.q .leaf))
theorem T27 (w : World) (R : (TyA34) -> World -> Prop) (h : S27 w R) : C27 w R := by
 have e : fnT Tryz.prog ⟨FF,MAY,(fun _ _=> False)⟩ pl27 Tryz.f27 [] w [(.agg [.str,.bool,(.int .i64),.slc,(.int .i64),.slc,.slc])] (fun s w=> R s w) = S27 w R := by kernel_rfl
 exact (fn_calls okF okM Tryz.func27 (by kernel_rfl) (by kernel_rfl) (e.mpr h)).mono fun _ _ ⟨s,he,hR⟩=> ⟨s,he,hR⟩
def S28 (name1 : ByteArray) (s2 : ByteArray) (w : World) (R : (ByteArray × Slc × ByteArray) -> World -> Prop) : Prop :=
 Nw w (.cells #[.string (⟨#[]⟩ : ByteArray),Slc.v ((⟨none,0,0⟩ : Slc)),.string (⟨#[]⟩ : ByteArray)] 48) fun z3=>
 Nw z3 (.cells #[.int .i64 4,.int .i64 0,.int .i64 0,.string s2,Slc.v ((⟨none,0,0⟩ : Slc)),Slc.v ((⟨none,0,0⟩ : Slc))] 61) fun z4=>
 St z4 ⟨w.heap.size,0,none⟩ (.string name1) fun z5=>
 St z5 (.add ⟨w.heap.size,0,none⟩ 1) (Slc.v ((⟨some ⟨z3.heap.size,0,none⟩,1,1⟩ : Slc))) fun z6=>
 St z6 (.add ⟨w.heap.size,0,none⟩ 2) (.string (⟨#[]⟩ : ByteArray)) fun z7=>
 Ld z7 ⟨w.heap.size,0,none⟩ .string fun x8=>
 Ld z7 (.add ⟨w.heap.size,0,none⟩ 1) Slc.v fun x9=>
 Ld z7 (.add ⟨w.heap.size,0,none⟩ 2) .string fun x10=>
 R (x8,x9,x10) z7
def pl28 : Plan := (.q (.q .leaf))
theorem T28 (name1 : ByteArray) (s2 : ByteArray) (w : World) (R : (ByteArray × Slc × ByteArray) -> World -> Prop) (h : S28 name1 s2 w R) : C28 name1 s2 w R := by
 have e : fnT Tryz.prog ⟨FF,MAY,(fun _ _=> False)⟩ pl28 Tryz.f28 [.string name1,.string s2] w [(.agg [.str,.slc,.str])] (fun s w=> R s w) = S28 name1 s2 w R := by kernel_rfl
 exact (fn_calls okF okM Tryz.func28 (by kernel_rfl) (by kernel_rfl) (e.mpr h)).mono fun _ _ ⟨s,he,hR⟩=> ⟨s,he,hR⟩
def S10J1 (z5 : World) (r46 : Option Addr) (r59 : Int) (r66 : Int) (r73 : Int) (s89 : Int) (r97 : Slc) (r98 : Int) (z101 : World) (s131 : Slc × Int) (r138 : Int) (R : Bool -> World -> Prop) (s162 : Int) (z163 : World) : Prop :=
 C16 r46 z163 fun r164 z165=>
  ∃ vS166 : World -> Prop,vS166 z165.drew /\ LdST vS166 ⟨z5.heap.size,0,none⟩ 0 LiA34 fun (x167 : TyA34)=>
  C26 z165.drew fun r168 z169=>
   vS166 z169 /\ C13 r46 ((⟨#[69,84]⟩ : ByteArray),(⟨none,0,0⟩ : Slc),(⟨#[]⟩ : ByteArray)) r168 x167 z169 fun r170 r171 z172=>
    Br (r59 != 29) (R false z172) (Br (r66 != 0) (R false z172) (Br (r73 != 29) (R false z172) (Br (s89 != 0) (R false z172) (Br (r98 != 0) (R false z172) (Br (((r97.len : Nat) : Int) != 2) (R false z172) (0 <= (0 : Int) /\ (0 : Int) < (r97.len : Nat) /\ Nn r97.p fun a182=>
          LdT z172 (a182.add (((0 : Int)).toNat * 9)) 0 LiA69 fun (x183 : TyA69)=>
          Lt (!((x183.1 == 97) && ((x183.2.1.toList == (⟨#[97]⟩ : ByteArray).toList) && (((x183.2.2.1 == 20000) && ((x183.2.2.2.1 == 5000) && true)) && (((x183.2.2.2.2.1 == 70000) && ((x183.2.2.2.2.2.1 == 5000) && true)) && ((x183.2.2.2.2.2.2.1 == 100000) && ((x183.2.2.2.2.2.2.2.1.toList == (⟨#[70]⟩ : ByteArray).toList) && ((x183.2.2.2.2.2.2.2.2 == 0) && true)))))))) fun (x184 : Bool)=>
          Br x184 (R false z172) (0 <= (1 : Int) /\ (1 : Int) < (r97.len : Nat) /\ Nn r97.p fun a185=>
           Ld z172 ((a185.add (((1 : Int)).toNat * 9)).add 2) (.int .i64) fun x186=>
           Br (x186 != 70000) (R false z172) (0 <= (1 : Int) /\ (1 : Int) < (r97.len : Nat) /\ Nn r97.p fun a187=>
            Ld z172 ((a187.add (((1 : Int)).toNat * 9)).add 4) (.int .i64) fun x188=>
            Br (x188 != 95000) (R false z172) (Ld z172 (.add ⟨z101.heap.size,0,none⟩ 4) (.int .i64) fun x189=>
             Br (x189 != 95000) (R false z172) (Ld z172 (.add ⟨z101.heap.size,0,none⟩ 5) (.int .i64) fun x190=>
              Br (x190 != 5000) (R false z172) (Br (s131.2 == 0) (Br (((s131.1.len : Nat) : Int) == 2) (0 <= (0 : Int) /\ (0 : Int) < (s131.1.len : Nat) /\ Nn s131.1.p fun a191=>
                 Ld z172 ((a191.add (((0 : Int)).toNat * 9)).add 2) (.int .i64) fun x192=>
                 Br (x192 == 95000) (0 <= (1 : Int) /\ (1 : Int) < (s131.1.len : Nat) /\ Nn s131.1.p fun a193=>
                  Ld z172 ((a193.add (((1 : Int)).toNat * 9)).add 2) (.int .i64) fun x194=>
                  Br (x194 == 245000) (Br (r138 == 8) (Br (s162 == 28) (Br r164 (Br (r171 == 0) (C16 r46 z172 fun r195 z196=>
                        Br (!r195) (C17 r46 z196 fun r197 z198=>
                          C22 z198 fun r199 z200=>
                           Lt (((r197.1 == r199.1) && ((r197.2.1 == r199.2.1) && ((r197.2.2.1 == r199.2.2.1) && ((r197.2.2.2.1 == r199.2.2.2.1) && ((r197.2.2.2.2.1 == r199.2.2.2.2.1) && ((r197.2.2.2.2.2 == r199.2.2.2.2.2) && true))))))) fun (x201 : Bool)=>
                           R x201 z200) (R false z196)) (R false z172)) (R false z172)) (R false z172)) (R false z172)) (R false z172)) (R false z172)) (R false z172)) (R false z172))))))))))))
def S10J2 (z5 : World) (r46 : Option Addr) (r59 : Int) (r66 : Int) (r73 : Int) (s89 : Int) (r97 : Slc) (r98 : Int) (z101 : World) (R : Bool -> World -> Prop) (s131 : Slc × Int) (z132 : World) : Prop :=
 ∃ vS133 : World -> Prop,vS133 z132.drew /\ LdST vS133 ⟨z5.heap.size,0,none⟩ 0 LiA34 fun (x134 : TyA34)=>
 C26 z132.drew fun r135 z136=>
  vS133 z136 /\ C13 r46 ((⟨#[113]⟩ : ByteArray),(⟨none,0,0⟩ : Slc),(⟨#[]⟩ : ByteArray)) r135 x134 z136 fun r137 r138 z139=>
   Join (S10J1 z5 r46 r59 r66 r73 s89 r97 r98 z101 s131 r138 R) fun (vJ202 : Int -> World -> Prop)=>
    ∃ vS203 : World -> Prop,vS203 z139.drew /\ LdST vS203 ⟨z5.heap.size,0,none⟩ 0 LiA34 fun (x204 : TyA34)=>
    (Nw z139.drew (.cells #[.int .i64 0,.int .i64 0,.int .i64 0,.string (⟨#[]⟩ : ByteArray),Slc.v ((⟨none,0,0⟩ : Slc)),Slc.v ((⟨none,0,0⟩ : Slc))] 61) fun z205=>
     vS203 z205 /\ (Nw z205 (.cells #[.int .i64 6,.int .i64 0,.int .i64 0,.string (⟨#[]⟩ : ByteArray),Slc.v ((⟨none,0,0⟩ : Slc)),Slc.v ((⟨some ⟨z139.drew.heap.size,0,none⟩,1,1⟩ : Slc))] 61) fun z206=>
      vS203 z206 /\ C26 z206 fun r207 z208=>
       vS203 z208 /\ C13 r46 ((⟨#[84,74]⟩ : ByteArray),(⟨some ⟨z205.heap.size,0,none⟩,1,1⟩ : Slc),(⟨#[]⟩ : ByteArray)) r207 x204 z208 fun r209 r210 z211=>
        vJ202 r210 z211) /\
     (C26 z205 fun r212 z213=>
       vS203 z213 /\ Nw z213 (.cells #[.int .i64 6,.int .i64 0,.int .i64 0,.string (⟨#[]⟩ : ByteArray),Slc.v ((⟨none,0,0⟩ : Slc)),Slc.v ((⟨some ⟨z139.drew.heap.size,0,none⟩,1,1⟩ : Slc))] 61) fun z214=>
       vS203 z214 /\ C13 r46 ((⟨#[84,74]⟩ : ByteArray),(⟨some ⟨z213.heap.size,0,none⟩,1,1⟩ : Slc),(⟨#[]⟩ : ByteArray)) r212 x204 z214 fun r215 r216 z217=>
        vJ202 r216 z217)) /\
    (C26 z139.drew fun r218 z219=>
      vS203 z219 /\ Nw z219 (.cells #[.int .i64 0,.int .i64 0,.int .i64 0,.string (⟨#[]⟩ : ByteArray),Slc.v ((⟨none,0,0⟩ : Slc)),Slc.v ((⟨none,0,0⟩ : Slc))] 61) fun z220=>
      vS203 z220 /\ Nw z220 (.cells #[.int .i64 6,.int .i64 0,.int .i64 0,.string (⟨#[]⟩ : ByteArray),Slc.v ((⟨none,0,0⟩ : Slc)),Slc.v ((⟨some ⟨z219.heap.size,0,none⟩,1,1⟩ : Slc))] 61) fun z221=>
      vS203 z221 /\ C13 r46 ((⟨#[84,74]⟩ : ByteArray),(⟨some ⟨z220.heap.size,0,none⟩,1,1⟩ : Slc),(⟨#[]⟩ : ByteArray)) r218 x204 z221 fun r222 r223 z224=>
       vJ202 r223 z224)
def S10J3 (z5 : World) (r46 : Option Addr) (r59 : Int) (r66 : Int) (r73 : Int) (R : Bool -> World -> Prop) (s89 : Int) (z90 : World) : Prop :=
 ∃ vS91 : World -> Prop,vS91 z90.drew /\ LdST vS91 ⟨z5.heap.size,0,none⟩ 0 LiA34 fun (x92 : TyA34)=>
 C28 (⟨#[84,106]⟩ : ByteArray) (⟨#[97,98]⟩ : ByteArray) z90.drew fun r93 z94=>
  vS91 z94 /\ C26 z94 fun r95 z96=>
   vS91 z96 /\ C13 r46 (r93.1,r93.2.1,r93.2.2) r95 x92 z96 fun r97 r98 z99=>
    C17 r46 z99 fun r100 z101=>
     Nw z101 (.cells #[.int .i64 0,.int .i64 0,.int .i64 0,.int .i64 0,.int .i64 0,.int .i64 0] 24) fun z102=>
     St z102 ⟨z101.heap.size,0,none⟩ (.int .i64 (r100.1)) fun z103=>
     St z103 (.add ⟨z101.heap.size,0,none⟩ 1) (.int .i64 (r100.2.1)) fun z104=>
     St z104 (.add ⟨z101.heap.size,0,none⟩ 2) (.int .i64 (r100.2.2.1)) fun z105=>
     St z105 (.add ⟨z101.heap.size,0,none⟩ 3) (.int .i64 (r100.2.2.2.1)) fun z106=>
     St z106 (.add ⟨z101.heap.size,0,none⟩ 4) (.int .i64 (r100.2.2.2.2.1)) fun z107=>
     St z107 (.add ⟨z101.heap.size,0,none⟩ 5) (.int .i64 (r100.2.2.2.2.2)) fun z108=>
     Join (S10J2 z5 r46 r59 r66 r73 s89 r97 r98 z101 R) fun (vJ225 : (Slc × Int) -> World -> Prop)=>
      ∃ vS226 : World -> Prop,vS226 z108.drew /\ LdST vS226 ⟨z5.heap.size,0,none⟩ 0 LiA34 fun (x227 : TyA34)=>
      (Nw z108.drew (.cells #[.int .i64 4,.int .i64 0,.int .i64 0,.string ((⟨#[97]⟩ : ByteArray)),Slc.v ((⟨none,0,0⟩ : Slc)),Slc.v ((⟨none,0,0⟩ : Slc)),.int .i64 2,.int .i64 (-1000),.int .i64 0,.string (⟨#[]⟩ : ByteArray),Slc.v ((⟨none,0,0⟩ : Slc)),Slc.v ((⟨none,0,0⟩ : Slc)),.int .i64 4,.int .i64 0,.int .i64 0,.string ((⟨#[97]⟩ : ByteArray)),Slc.v ((⟨none,0,0⟩ : Slc)),Slc.v ((⟨none,0,0⟩ : Slc))] 61) fun z228=>
       vS226 z228 /\ (Nw z228 (.cells #[.int .i64 6,.int .i64 0,.int .i64 0,.string (⟨#[]⟩ : ByteArray),Slc.v ((⟨none,0,0⟩ : Slc)),Slc.v ((⟨some ⟨z108.drew.heap.size,0,none⟩,3,3⟩ : Slc))] 61) fun z229=>
        vS226 z229 /\ C26 z229 fun r230 z231=>
         vS226 z231 /\ C13 r46 ((⟨#[84,74]⟩ : ByteArray),(⟨some ⟨z228.heap.size,0,none⟩,1,1⟩ : Slc),(⟨#[]⟩ : ByteArray)) r230 x227 z231 fun r232 r233 z234=>
          vJ225 (r232,r233) z234) /\
       (C26 z228 fun r235 z236=>
         vS226 z236 /\ Nw z236 (.cells #[.int .i64 6,.int .i64 0,.int .i64 0,.string (⟨#[]⟩ : ByteArray),Slc.v ((⟨none,0,0⟩ : Slc)),Slc.v ((⟨some ⟨z108.drew.heap.size,0,none⟩,3,3⟩ : Slc))] 61) fun z237=>
         vS226 z237 /\ C13 r46 ((⟨#[84,74]⟩ : ByteArray),(⟨some ⟨z236.heap.size,0,none⟩,1,1⟩ : Slc),(⟨#[]⟩ : ByteArray)) r235 x227 z237 fun r238 r239 z240=>
          vJ225 (r238,r239) z240)) /\
      (C26 z108.drew fun r241 z242=>
        vS226 z242 /\ Nw z242 (.cells #[.int .i64 4,.int .i64 0,.int .i64 0,.string ((⟨#[97]⟩ : ByteArray)),Slc.v ((⟨none,0,0⟩ : Slc)),Slc.v ((⟨none,0,0⟩ : Slc)),.int .i64 2,.int .i64 (-1000),.int .i64 0,.string (⟨#[]⟩ : ByteArray),Slc.v ((⟨none,0,0⟩ : Slc)),Slc.v ((⟨none,0,0⟩ : Slc)),.int .i64 4,.int .i64 0,.int .i64 0,.string ((⟨#[97]⟩ : ByteArray)),Slc.v ((⟨none,0,0⟩ : Slc)),Slc.v ((⟨none,0,0⟩ : Slc))] 61) fun z243=>
        vS226 z243 /\ Nw z243 (.cells #[.int .i64 6,.int .i64 0,.int .i64 0,.string (⟨#[]⟩ : ByteArray),Slc.v ((⟨none,0,0⟩ : Slc)),Slc.v ((⟨some ⟨z242.heap.size,0,none⟩,3,3⟩ : Slc))] 61) fun z244=>
        vS226 z244 /\ C13 r46 ((⟨#[84,74]⟩ : ByteArray),(⟨some ⟨z243.heap.size,0,none⟩,1,1⟩ : Slc),(⟨#[]⟩ : ByteArray)) r241 x227 z244 fun r245 r246 z247=>
         vJ225 (r245,r246) z247)
def S10 (w : World) (R : Bool -> World -> Prop) : Prop :=
 C26 w fun r1 z2=>
  C27 z2 fun r3 z4=>
   Nw z4 (.cells #[.int .i64 0,.int .i64 0,.int .i64 0,.int .i64 0,.int .i64 0,.int .i64 0,.int .i64 0,.int .i64 0,.int .i64 0,.int .i64 0,Slc.v ((⟨none,0,0⟩ : Slc)),.int .i64 0,.int .i64 0,.int .i64 0,.int .i64 0,.int .i64 0,.int .i64 0,.int .i64 0,.int .i64 0,.int .i64 0,.int .i64 0,.int .i64 0,.int .i64 0,.int .i64 0,.int .i64 0,.int .i64 0,.int .i64 0,.int .i64 0,.string (⟨#[]⟩ : ByteArray),.int .i64 0] 31) fun z5=>
   Nw z5 (.cells #[.string (⟨#[]⟩ : ByteArray),.bool false,.int .i64 0,Slc.v ((⟨none,0,0⟩ : Slc)),.int .i64 0,Slc.v ((⟨none,0,0⟩ : Slc)),Slc.v ((⟨none,0,0⟩ : Slc))] 35) fun z6=>
   StT ⟨z4.heap.size,0,none⟩ 0 LiA30 r1 z6 fun z7=>
   StT ⟨z5.heap.size,0,none⟩ 0 LiA34 r3 z7 fun z8=>
   LdT z8 ⟨z4.heap.size,0,none⟩ 0 LiA30 fun (x9 : TyA30)=>
   LdT z8 ⟨z5.heap.size,0,none⟩ 0 LiA34 fun (x10 : TyA34)=>
   C11 x9 x10 97 z8 fun r11 r12 z13=>
    St z13 (.add ⟨z4.heap.size,0,none⟩ 22) (.int .i64 1) fun z14=>
    St z14 (((⟨z4.heap.size,0,none⟩ : Addr).add 22).add 1) (.int .i64 3) fun z15=>
    LdT z15 ⟨z4.heap.size,0,none⟩ 0 LiA30 fun (x16 : TyA30)=>
    LdT z15 ⟨z5.heap.size,0,none⟩ 0 LiA34 fun (x17 : TyA34)=>
    C11 x16 x17 97 z15 fun r18 r19 z20=>
     LdT z20 ⟨z4.heap.size,0,none⟩ 0 LiA30 fun (x21 : TyA30)=>
     LdT z20 ⟨z5.heap.size,0,none⟩ 0 LiA34 fun (x22 : TyA34)=>
     C11 x21 x22 32 z20 fun r23 r24 z25=>
      C26 z25 fun r26 z27=>
       StT ⟨z4.heap.size,0,none⟩ 0 LiA30 r26 z27 fun z28=>
       St z28 (((⟨z4.heap.size,0,none⟩ : Addr).add 22).add 2) (.int .i64 500000) fun z29=>
       LdT z29 ⟨z4.heap.size,0,none⟩ 0 LiA30 fun (x30 : TyA30)=>
       LdT z29 ⟨z5.heap.size,0,none⟩ 0 LiA34 fun (x31 : TyA34)=>
       C11 x30 x31 97 z29 fun r32 r33 z34=>
        St z34 (((⟨z4.heap.size,0,none⟩ : Addr).add 22).add 4) (.int .i64 1073741825) fun z35=>
        LdT z35 ⟨z4.heap.size,0,none⟩ 0 LiA30 fun (x36 : TyA30)=>
        LdT z35 ⟨z5.heap.size,0,none⟩ 0 LiA34 fun (x37 : TyA34)=>
        C11 x36 x37 97 z35 fun r38 r39 z40=>
         C26 z40 fun r41 z42=>
          C11 r41 (((⟨#[]⟩ : ByteArray),false,0,(⟨none,0,0⟩ : Slc),0,(⟨none,0,0⟩ : Slc),(⟨none,0,0⟩ : Slc)) : TyA34) 97 z42 fun r43 r44 z45=>
           C7 z45 fun r46 z47=>
            Br r46.isNone (R false z47) (C16 r46 z47 fun r50 z51=>
              Br r50 (R false z51) (Br (r11 != 50000) (R false z51) (Br (r12 != 0) (R false z51) (Br (r18 != 50001) (R false z51) (Br (r19 != 0) (R false z51) (Br (r23 != 25004) (R false z51) (Br (r24 != 0) (R false z51) (Br (r32 != 25000) (R false z51) (Br (r33 != 0) (R false z51) (Br (r39 != 2) (R false z51) (Br (r44 != 1) (R false z51) (∃ vS52 : World -> Prop,vS52 z51.drew /\ LdST vS52 ⟨z5.heap.size,0,none⟩ 0 LiA34 fun (x53 : TyA34)=>
                         C28 (⟨#[84,106]⟩ : ByteArray) (⟨#[97]⟩ : ByteArray) z51.drew fun r54 z55=>
                          vS52 z55 /\ C26 z55 fun r56 z57=>
                           vS52 z57 /\ C13 r46 (r54.1,r54.2.1,r54.2.2) r56 x53 z57 fun r58 r59 z60=>
                            ∃ vS61 : World -> Prop,vS61 z60.drew /\ LdST vS61 ⟨z5.heap.size,0,none⟩ 0 LiA34 fun (x62 : TyA34)=>
                            C26 z60.drew fun r63 z64=>
                             vS61 z64 /\ C13 r46 ((⟨#[66,84]⟩ : ByteArray),(⟨none,0,0⟩ : Slc),(⟨#[]⟩ : ByteArray)) r63 x62 z64 fun r65 r66 z67=>
                              ∃ vS68 : World -> Prop,vS68 z67.drew /\ LdST vS68 ⟨z5.heap.size,0,none⟩ 0 LiA34 fun (x69 : TyA34)=>
                              C26 z67.drew fun r70 z71=>
                               vS68 z71 /\ C13 r46 ((⟨#[66,84]⟩ : ByteArray),(⟨none,0,0⟩ : Slc),(⟨#[]⟩ : ByteArray)) r70 x69 z71 fun r72 r73 z74=>
                                Join (S10J3 z5 r46 r59 r66 r73 R) fun (vJ248 : Int -> World -> Prop)=>
                                 ∃ vS249 : World -> Prop,vS249 z74.drew /\ LdST vS249 ⟨z5.heap.size,0,none⟩ 0 LiA34 fun (x250 : TyA34)=>
                                 (Nw z74.drew (.cells #[.int .i64 2,.int .i64 2,.int .i64 0,.string (⟨#[]⟩ : ByteArray),Slc.v ((⟨none,0,0⟩ : Slc)),Slc.v ((⟨none,0,0⟩ : Slc)),.int .i64 3,.int .i64 5000,.int .i64 0,.string (⟨#[]⟩ : ByteArray),Slc.v ((⟨none,0,0⟩ : Slc)),Slc.v ((⟨none,0,0⟩ : Slc))] 61) fun z251=>
                                  vS249 z251 /\ C26 z251 fun r252 z253=>
                                   vS249 z253 /\ C13 r46 ((⟨#[84,100]⟩ : ByteArray),(⟨some ⟨z74.drew.heap.size,0,none⟩,2,2⟩ : Slc),(⟨#[]⟩ : ByteArray)) r252 x250 z253 fun r254 r255 z256=>
                                    vJ248 r255 z256) /\
                                 (C26 z74.drew fun r257 z258=>
                                   vS249 z258 /\ Nw z258 (.cells #[.int .i64 2,.int .i64 2,.int .i64 0,.string (⟨#[]⟩ : ByteArray),Slc.v ((⟨none,0,0⟩ : Slc)),Slc.v ((⟨none,0,0⟩ : Slc)),.int .i64 3,.int .i64 5000,.int .i64 0,.string (⟨#[]⟩ : ByteArray),Slc.v ((⟨none,0,0⟩ : Slc)),Slc.v ((⟨none,0,0⟩ : Slc))] 61) fun z259=>
                                   vS249 z259 /\ C13 r46 ((⟨#[84,100]⟩ : ByteArray),(⟨some ⟨z258.heap.size,0,none⟩,2,2⟩ : Slc),(⟨#[]⟩ : ByteArray)) r257 x250 z259 fun r260 r261 z262=>
                                    vJ248 r261 z262)))))))))))))
def pl10 : Plan := (.q (.q (.q (.q (.q (.q (.q (.q (.q (.q (.q (.q (.q (.seq (.q (.cond (.q .leaf) .leaf)) (.seq (.reg (.held [4] (.take 0 (.take 3 (.eff 1 none (.eff 2 none (.eff 4 (some []) (.take 5 (.take 6 (.take 7 (.take 8 (.take 9 .done)))))))))))) (.seq (.reg (.held [4] (.take 0 (.take 1 (.take 3 (.eff 2 none (.eff 4 (some []) (.take 5 (.take 6 (.take 7 (.take 8 (.take 9 .done)))))))))))) (.seq (.reg (.held [4] (.take 0 (.take 1 (.take 3 (.eff 2 none (.eff 4 (some []) (.take 5 (.take 6 (.take 7 (.take 8 (.take 9 .done)))))))))))) (.join [(23,(.one (.int .i64)))] [2,15,17,19,21] (.reg (.held [7] (.take 0 (.take 1 (.take 2 (.take 6 (.effs 3 none (.take 4 (.eff 5 none (.eff 7 (some []) (.take 8 (.take 9 (.take 10 (.take 11 (.take 12 .done)))))))) (.eff 5 none (.eff 3 none (.take 4 (.eff 7 (some []) (.take 8 (.take 9 (.take 10 (.take 11 (.take 12 .done)))))))))))))))) (.seq (.reg (.held [4] (.take 0 (.take 3 (.eff 1 none (.eff 2 none (.eff 4 (some []) (.take 5 (.take 6 (.take 7 (.take 8 (.take 9 .done)))))))))))) (.q (.join [(27,(.one .slc)),(28,(.one (.int .i64)))] [2,15,17,19,21,23,24,25,26] (.reg (.held [10] (.take 0 (.take 1 (.take 2 (.take 3 (.take 9 (.effs 4 none (.take 5 (.effs 6 none (.take 7 (.eff 8 none (.eff 10 (some []) (.take 11 (.take 12 (.take 13 (.take 14 (.take 15 .done)))))))) (.eff 8 none (.eff 6 none (.take 7 (.eff 10 (some []) (.take 11 (.take 12 (.take 13 (.take 14 (.take 15 .done))))))))))) (.eff 8 none (.eff 4 none (.take 5 (.eff 6 none (.take 7 (.eff 10 (some []) (.take 11 (.take 12 (.take 13 (.take 14 (.take 15 .done))))))))))))))))))) (.seq (.reg (.held [4] (.take 0 (.take 1 (.take 3 (.eff 2 none (.eff 4 (some []) (.take 5 (.take 6 (.take 7 (.take 8 (.take 9 .done)))))))))))) (.join [(32,(.one (.int .i64)))] [2,15,17,19,21,23,24,25,26,27,28,30] (.reg (.held [8] (.take 0 (.take 1 (.take 7 (.effs 2 none (.take 3 (.effs 4 none (.take 5 (.eff 6 none (.eff 8 (some []) (.take 9 (.take 10 (.take 11 (.take 12 (.take 13 .done)))))))) (.eff 6 none (.eff 4 none (.take 5 (.eff 8 (some []) (.take 9 (.take 10 (.take 11 (.take 12 (.take 13 .done))))))))))) (.eff 6 none (.eff 2 none (.take 3 (.eff 4 none (.take 5 (.eff 8 (some []) (.take 9 (.take 10 (.take 11 (.take 12 (.take 13 .done))))))))))))))))) (.q (.seq (.reg (.held [4] (.take 0 (.take 1 (.take 3 (.eff 2 none (.eff 4 (some []) (.take 5 (.take 6 (.take 7 (.take 8 (.take 9 .done)))))))))))) (.seq (.q (.cond (.q .leaf) .leaf)) (.q .leaf)))))))))))))))))))))))))))
theorem T10 (w : World) (R : Bool -> World -> Prop) (h : S10 w R) : C10 w R := by
 have e : fnT Tryz.prog ⟨FF,MAY,(fun _ _=> False)⟩ pl10 Tryz.f10 [] w [(.one .bool)] (fun s w=> R s w) = S10 w R := by kernel_rfl
 exact (fn_calls okF okM Tryz.func10 (by kernel_rfl) (by kernel_rfl) (e.mpr h)).mono fun _ _ ⟨s,he,hR⟩=> ⟨s,he,hR⟩
def S25L1 (x16 : Slc) (R : Int -> World -> Prop) (I19 : (Int × Int) -> World -> Prop) (s17 : Int × Int) (z18 : World) : Prop :=
 Br (decide (s17.2 < ((x16.len : Nat) : Int))) (0 <= s17.2 /\ s17.2 < (x16.len : Nat) /\ Nn x16.p fun a20=>
  Ld z18 (a20.add ((s17.2).toNat * 6)) (.int .i64) fun x21=>
  Ld z18 ((a20.add ((s17.2).toNat * 6)).add 1) (.int .i64) fun x22=>
  Ld z18 ((a20.add ((s17.2).toNat * 6)).add 2) (.int .i64) fun x23=>
  Ld z18 ((a20.add ((s17.2).toNat * 6)).add 3) .string fun x24=>
  Ld z18 ((a20.add ((s17.2).toNat * 6)).add 4) Slc.v fun x25=>
  Ld z18 ((a20.add ((s17.2).toNat * 6)).add 5) Slc.v fun x26=>
  Nw z18 (.cells #[.int .i64 0,.int .i64 0,.int .i64 0,.string (⟨#[]⟩ : ByteArray),Slc.v ((⟨none,0,0⟩ : Slc)),Slc.v ((⟨none,0,0⟩ : Slc))] 61) fun z27=>
  St z27 ⟨z18.heap.size,0,none⟩ (.int .i64 x21) fun z28=>
  St z28 (.add ⟨z18.heap.size,0,none⟩ 1) (.int .i64 x22) fun z29=>
  St z29 (.add ⟨z18.heap.size,0,none⟩ 2) (.int .i64 x23) fun z30=>
  St z30 (.add ⟨z18.heap.size,0,none⟩ 3) (.string x24) fun z31=>
  St z31 (.add ⟨z18.heap.size,0,none⟩ 4) (Slc.v x25) fun z32=>
  St z32 (.add ⟨z18.heap.size,0,none⟩ 5) (Slc.v x26) fun z33=>
  Ld z33 ⟨z18.heap.size,0,none⟩ (.int .i64) fun x34=>
  Ld z33 (.add ⟨z18.heap.size,0,none⟩ 1) (.int .i64) fun x35=>
  Ld z33 (.add ⟨z18.heap.size,0,none⟩ 2) (.int .i64) fun x36=>
  Ld z33 (.add ⟨z18.heap.size,0,none⟩ 3) .string fun x37=>
  Ld z33 (.add ⟨z18.heap.size,0,none⟩ 4) Slc.v fun x38=>
  Ld z33 (.add ⟨z18.heap.size,0,none⟩ 5) Slc.v fun x39=>
  C25 (x34,x35,x36,x37,x38,x39) z33 fun r40 z41=>
   I19 (IntKind.i64.wrap (s17.1 + r40),IntKind.i64.wrap (s17.2 + 1)) z41) (R s17.1 z18)
def S25L2 (w : World) (x10 : Slc) (R : Int -> World -> Prop) (I13 : (Int × Int) -> World -> Prop) (s11 : Int × Int) (z12 : World) : Prop :=
 Br (decide (s11.2 < ((x10.len : Nat) : Int))) (0 <= s11.2 /\ s11.2 < (x10.len : Nat) /\ Nn x10.p fun a14=>
  Ld z12 (a14.add ((s11.2).toNat * 1)) .string fun x15=>
  I13 (IntKind.i64.wrap (s11.1 + (IntKind.i64.wrap (Int.tdiv (((x15).size : Nat) : Int) 50))),IntKind.i64.wrap (s11.2 + 1)) z12) (Ld z12 (.add ⟨w.heap.size,0,none⟩ 5) Slc.v fun x16=>
  Lp (σ := Int × Int) (S25L1 x16 R) (s11.1,0) z12)
def S25 (o1 : Int × Int × Int × ByteArray × Slc × Slc) (w : World) (R : Int -> World -> Prop) : Prop :=
 Nw w (.cells #[.int .i64 (o1.1),.int .i64 (o1.2.1),.int .i64 (o1.2.2.1),.string o1.2.2.2.1,Slc.v o1.2.2.2.2.1,Slc.v o1.2.2.2.2.2] 61) fun z2=>
 Ld z2 (.add ⟨w.heap.size,0,none⟩ 3) .string fun x3=>
 Ld z2 (.add ⟨w.heap.size,0,none⟩ 4) Slc.v fun x10=>
 Lp (σ := Int × Int) (S25L2 w x10 R) (IntKind.i64.wrap (1 + (IntKind.i64.wrap (Int.tdiv (((x3).size : Nat) : Int) 50))),0) z2
def pl25 : Plan := (.q (.q (.seq (.q (.block (.loop [(3,(.one (.int .i64))),(16,(.one (.int .i64)))] [1,14,15] (.q (.seq (.cond .leaf .leaf) (.seq (.block (.q (.reg .seq))) (.reg .seq))))))) (.seq (.q (.block (.loop [(3,(.one (.int .i64))),(29,(.one (.int .i64)))] [27,28] (.q (.seq (.cond .leaf .leaf) (.seq (.block (.q (.reg .seq))) (.reg .seq))))))) (.q .leaf)))))
theorem T25 (o1 : Int × Int × Int × ByteArray × Slc × Slc) (w : World) (R : Int -> World -> Prop) (h : S25 o1 w R) : C25 (o1.1,o1.2.1,o1.2.2.1,o1.2.2.2.1,o1.2.2.2.2.1,o1.2.2.2.2.2) w R := by
 have e : fnT Tryz.prog ⟨FF,MAY,(fun _ _=> False)⟩ pl25 Tryz.f25 [.agg #[.int .i64 (o1.1),.int .i64 (o1.2.1),.int .i64 (o1.2.2.1),.string o1.2.2.2.1,Slc.v o1.2.2.2.2.1,Slc.v o1.2.2.2.2.2]] w [(.one (.int .i64))] (fun s w=> R s w) = S25 o1 w R := by kernel_rfl
 exact (fn_calls okF okM Tryz.func25 (by kernel_rfl) (by kernel_rfl) (e.mpr h)).mono fun _ _ ⟨s,he,hR⟩=> ⟨s,he,hR⟩
def S9L1 (s22 : Int) (I24 : Int -> World -> Prop) (x57 : Slc) (R : Bool -> World -> Prop) (I60 : Int -> World -> Prop) (s58 : Int) (z59 : World) : Prop :=
 Br (decide (s58 < ((x57.len : Nat) : Int))) (0 <= s58 /\ s58 < (x57.len : Nat) /\ Nn x57.p fun a61=>
  Ld z59 (a61.add ((s58).toNat * 6)) (.int .i64) fun x62=>
  Ld z59 ((a61.add ((s58).toNat * 6)).add 1) (.int .i64) fun x63=>
  Ld z59 ((a61.add ((s58).toNat * 6)).add 2) (.int .i64) fun x64=>
  Ld z59 ((a61.add ((s58).toNat * 6)).add 3) .string fun x65=>
  Ld z59 ((a61.add ((s58).toNat * 6)).add 4) Slc.v fun x66=>
  Ld z59 ((a61.add ((s58).toNat * 6)).add 5) Slc.v fun x67=>
  Nw z59 (.cells #[.int .i64 0,.int .i64 0,.int .i64 0,.string (⟨#[]⟩ : ByteArray),Slc.v ((⟨none,0,0⟩ : Slc)),Slc.v ((⟨none,0,0⟩ : Slc))] 61) fun z68=>
  St z68 ⟨z59.heap.size,0,none⟩ (.int .i64 x62) fun z69=>
  St z69 (.add ⟨z59.heap.size,0,none⟩ 1) (.int .i64 x63) fun z70=>
  St z70 (.add ⟨z59.heap.size,0,none⟩ 2) (.int .i64 x64) fun z71=>
  St z71 (.add ⟨z59.heap.size,0,none⟩ 3) (.string x65) fun z72=>
  St z72 (.add ⟨z59.heap.size,0,none⟩ 4) (Slc.v x66) fun z73=>
  St z73 (.add ⟨z59.heap.size,0,none⟩ 5) (Slc.v x67) fun z74=>
  Ld z74 (.add ⟨z59.heap.size,0,none⟩ 3) .string fun x75=>
  Br (decide ((((x75).size : Nat) : Int) > 100)) (R false z74) (I60 (IntKind.i64.wrap (s58 + 1)) z74)) (I24 (IntKind.i64.wrap (s22 + 1)) z59)
def S9L2 (s10 : Int) (I12 : Int -> World -> Prop) (x21 : Slc) (R : Bool -> World -> Prop) (I24 : Int -> World -> Prop) (s22 : Int) (z23 : World) : Prop :=
 Br (decide (s22 < ((x21.len : Nat) : Int))) (0 <= s22 /\ s22 < (x21.len : Nat) /\ Nn x21.p fun a25=>
  Ld z23 (a25.add ((s22).toNat * 6)) (.int .i64) fun x26=>
  Ld z23 ((a25.add ((s22).toNat * 6)).add 1) (.int .i64) fun x27=>
  Ld z23 ((a25.add ((s22).toNat * 6)).add 2) (.int .i64) fun x28=>
  Ld z23 ((a25.add ((s22).toNat * 6)).add 3) .string fun x29=>
  Ld z23 ((a25.add ((s22).toNat * 6)).add 4) Slc.v fun x30=>
  Ld z23 ((a25.add ((s22).toNat * 6)).add 5) Slc.v fun x31=>
  Nw z23 (.cells #[.int .i64 0,.int .i64 0,.int .i64 0,.string (⟨#[]⟩ : ByteArray),Slc.v ((⟨none,0,0⟩ : Slc)),Slc.v ((⟨none,0,0⟩ : Slc))] 61) fun z32=>
  St z32 ⟨z23.heap.size,0,none⟩ (.int .i64 x26) fun z33=>
  St z33 (.add ⟨z23.heap.size,0,none⟩ 1) (.int .i64 x27) fun z34=>
  St z34 (.add ⟨z23.heap.size,0,none⟩ 2) (.int .i64 x28) fun z35=>
  St z35 (.add ⟨z23.heap.size,0,none⟩ 3) (.string x29) fun z36=>
  St z36 (.add ⟨z23.heap.size,0,none⟩ 4) (Slc.v x30) fun z37=>
  St z37 (.add ⟨z23.heap.size,0,none⟩ 5) (Slc.v x31) fun z38=>
  Ld z38 ⟨z23.heap.size,0,none⟩ (.int .i64) fun x48=>
  Ld z38 (.add ⟨z23.heap.size,0,none⟩ 1) (.int .i64) fun x49=>
  Ld z38 (.add ⟨z23.heap.size,0,none⟩ 2) (.int .i64) fun x50=>
  Ld z38 (.add ⟨z23.heap.size,0,none⟩ 3) .string fun x51=>
  Ld z38 (.add ⟨z23.heap.size,0,none⟩ 4) Slc.v fun x52=>
  Ld z38 (.add ⟨z23.heap.size,0,none⟩ 5) Slc.v fun x53=>
  C25 (x48,x49,x50,x51,x52,x53) z38 fun r54 z55=>
   Br (decide (r54 > 40)) (R false z55) (Ld z55 (.add ⟨z23.heap.size,0,none⟩ 3) .string fun x56=>
    Br (decide ((((x56).size : Nat) : Int) > 200)) (R false z55) (Ld z55 (.add ⟨z23.heap.size,0,none⟩ 5) Slc.v fun x57=>
     Lp (σ := Int) (S9L1 s22 I24 x57 R) 0 z55))) (I12 (IntKind.i64.wrap (s10 + 1)) z23)
def S9L3 (l1 : Slc) (R : Bool -> World -> Prop) (I12 : Int -> World -> Prop) (s10 : Int) (z11 : World) : Prop :=
 Br (decide (s10 < ((l1.len : Nat) : Int))) (0 <= s10 /\ s10 < (l1.len : Nat) /\ Nn l1.p fun a13=>
  Ld z11 (a13.add ((s10).toNat * 3)) .string fun x14=>
  Ld z11 ((a13.add ((s10).toNat * 3)).add 1) Slc.v fun x15=>
  Ld z11 ((a13.add ((s10).toNat * 3)).add 2) .string fun x16=>
  Nw z11 (.cells #[.string (⟨#[]⟩ : ByteArray),Slc.v ((⟨none,0,0⟩ : Slc)),.string (⟨#[]⟩ : ByteArray)] 48) fun z17=>
  St z17 ⟨z11.heap.size,0,none⟩ (.string x14) fun z18=>
  St z18 (.add ⟨z11.heap.size,0,none⟩ 1) (Slc.v x15) fun z19=>
  St z19 (.add ⟨z11.heap.size,0,none⟩ 2) (.string x16) fun z20=>
  Ld z20 (.add ⟨z11.heap.size,0,none⟩ 1) Slc.v fun x21=>
  Lp (σ := Int) (S9L2 s10 I12 x21 R) 0 z20) (R true z11)
def S9 (l1 : Slc) (f2 : TyA34) (w : World) (R : Bool -> World -> Prop) : Prop :=
 Nw w (.cells (Sig.cells LiA34 f2).toArray 35) fun z3=>
 Br (decide (((l1.len : Nat) : Int) > 30)) (R false z3) (Ld z3 (.add ⟨w.heap.size,0,none⟩ 3) Slc.v fun x7=>
  Br (decide (((x7.len : Nat) : Int) > 400)) (R false z3) (Ld z3 (.add ⟨w.heap.size,0,none⟩ 6) Slc.v fun x8=>
   Br (decide (((x8.len : Nat) : Int) > 100)) (R false z3) (Ld z3 (.add ⟨w.heap.size,0,none⟩ 5) Slc.v fun x9=>
    Br (decide (((x9.len : Nat) : Int) > 300)) (R false z3) (Lp (σ := Int) (S9L3 l1 R) 0 z3))))
def pl9 : Plan := (.q (.seq (.q (.cond (.q .leaf) .leaf)) (.seq (.q (.block (.loop [(34,(.one (.int .i64)))] [32,33] (.q (.seq (.cond .leaf .leaf) (.seq (.block (.q (.q (.block (.loop [(41,(.one (.int .i64)))] [32,33,34,39,40] (.q (.seq (.cond .leaf .leaf) (.seq (.block (.q (.seq (.q (.cond (.q .leaf) .leaf)) (.q (.block (.loop [(57,(.one (.int .i64)))] [32,33,34,39,40,41,55,56] (.q (.seq (.cond .leaf .leaf) (.seq (.block (.q (.q (.cond (.q .leaf) .leaf)))) (.reg .seq)))))))))) (.reg .seq))))))))) (.reg .seq))))))) (.q .leaf))))
theorem T9 (l1 : Slc) (f2 : TyA34) (w : World) (R : Bool -> World -> Prop) (h : S9 l1 f2 w R) : C9 l1 f2 w R := by
 have e : fnT Tryz.prog ⟨FF,MAY,(fun _ _=> False)⟩ pl9 Tryz.f9 [Slc.v l1,.agg (Sig.cells LiA34 f2).toArray] w [(.one .bool)] (fun s w=> R s w) = S9 l1 f2 w R := by kernel_rfl
 exact (fn_calls okF okM Tryz.func9 (by kernel_rfl) (by kernel_rfl) (e.mpr h)).mono fun _ _ ⟨s,he,hR⟩=> ⟨s,he,hR⟩
def S18L1 (w : World) (z5 : World) (R : Int -> World -> Prop) (I15 : Int -> World -> Prop) (s13 : Int) (z14 : World) : Prop :=
 Br (decide (s13 < (((⟨some ⟨z5.heap.size,0,none⟩,6,6⟩ : Slc).len : Nat) : Int))) (0 <= s13 /\ s13 < ((⟨some ⟨z5.heap.size,0,none⟩,6,6⟩ : Slc).len : Nat) /\ Nn (⟨some ⟨z5.heap.size,0,none⟩,6,6⟩ : Slc).p fun a16=>
  Ld z14 (a16.add ((s13).toNat * 1)) (.int .i64) fun x17=>
  Br (decide (x17 < (-1073741824))) (R 2 z14) (Br (decide (x17 > 1073741824)) (R 2 z14) (I15 (IntKind.i64.wrap (s13 + 1)) z14))) (Ld z14 ⟨w.heap.size,0,none⟩ (.int .i64) fun x18=>
  Ld z14 (.add ⟨w.heap.size,0,none⟩ 1) (.int .i64) fun x19=>
  Ld z14 (.add ⟨w.heap.size,0,none⟩ 2) (.int .i64) fun x20=>
  Ld z14 (.add ⟨w.heap.size,0,none⟩ 3) (.int .i64) fun x21=>
  Ld z14 (.add ⟨w.heap.size,0,none⟩ 4) (.int .i64) fun x22=>
  Ld z14 (.add ⟨w.heap.size,0,none⟩ 5) (.int .i64) fun x23=>
  C49 (x18,x19,x20,x21,x22,x23) z14 fun r24 z25=>
   R r24 z25)
def S18 (g1 : TyA30) (w : World) (R : Int -> World -> Prop) : Prop :=
 Nw w (.cells (Sig.cells LiA30 g1).toArray 31) fun z2=>
 LdT z2 (.add ⟨w.heap.size,0,none⟩ 22) 0 LiA28 fun (x3 : TyA28)=>
 Nw z2 (.cells #[.int .i64 0,.int .i64 0,.int .i64 0,.int .i64 0,.int .i64 0,.int .i64 0,.string (⟨#[]⟩ : ByteArray),.int .i64 0] 29) fun z4=>
 StT ⟨z2.heap.size,0,none⟩ 0 LiA28 x3 z4 fun z5=>
 Ld z5 ⟨z2.heap.size,0,none⟩ (.int .i64) fun x6=>
 Ld z5 (.add ⟨z2.heap.size,0,none⟩ 1) (.int .i64) fun x7=>
 Ld z5 (.add ⟨z2.heap.size,0,none⟩ 2) (.int .i64) fun x8=>
 Ld z5 (.add ⟨z2.heap.size,0,none⟩ 3) (.int .i64) fun x9=>
 Ld z5 (.add ⟨z2.heap.size,0,none⟩ 4) (.int .i64) fun x10=>
 Ld z5 (.add ⟨z2.heap.size,0,none⟩ 5) (.int .i64) fun x11=>
 Nw z5 (.cells #[.int .i64 x6,.int .i64 x7,.int .i64 x8,.int .i64 x9,.int .i64 x10,.int .i64 x11] 2) fun z12=>
 Lp (σ := Int) (S18L1 w z5 R) 0 z12
def pl18 : Plan := (.q (.q (.seq (.q (.block (.loop [(22,(.one (.int .i64)))] [1,20,21] (.q (.seq (.cond .leaf .leaf) (.seq (.block (.q (.q (.cond (.q .leaf) .leaf)))) (.reg .seq))))))) (.q .leaf))))
theorem T18 (g1 : TyA30) (w : World) (R : Int -> World -> Prop) (h : S18 g1 w R) : C18 g1 w R := by
 have e : fnT Tryz.prog ⟨FF,MAY,(fun _ _=> False)⟩ pl18 Tryz.f18 [.agg (Sig.cells LiA30 g1).toArray] w [(.one (.int .i64))] (fun s w=> R s w) = S18 g1 w R := by kernel_rfl
 exact (fn_calls okF okM Tryz.func18 (by kernel_rfl) (by kernel_rfl) (e.mpr h)).mono fun _ _ ⟨s,he,hR⟩=> ⟨s,he,hR⟩
end Go.Proofs.YtcblpehnkogfdaaGreatDoor

/- Text machines: the sample of the laws walked, its parts. Conditions: the laid tables. -/
namespace Go.Proofs.YtcblpehnkogfdaaGreatDoor
namespace Ma
open Sh Mat Fix Fo Sw Opr Pat
set_option maxRecDepth 8000
set_option maxHeartbeats 4000000
attribute [local irreducible] Ld Sh.St Nw Nn Lt LdS
theorem c_usually (w : World) : C26 w fun r w1=> r = usualG /\ Ext (fun _=> False) w w1 := by
 refine T26 _ _ ?_
 unfold S26
 refine (Hn.start w).nw fun w1 H=> ?_
 refine (Mat.r_one _).mono ?_
 rintro r w3 ⟨rfl,e3⟩
 refine (H.keep e3).stT (i := 0) (ts := LiA30) (pre := []) (post := []) (x := usualG) (zs := [.int .i64 0,.int .i64 0,.int .i64 0,.int .i64 0,.int .i64 0,.int .i64 0,.int .i64 0,.int .i64 0,.int .i64 0,.int .i64 0,Slc.v ⟨none,0,0⟩,.int .i64 0,.int .i64 0,.int .i64 0,.int .i64 0,.int .i64 0,.int .i64 0,.int .i64 0,.int .i64 0,.int .i64 0,.int .i64 0,.int .i64 0,.int .i64 0,.int .i64 0,.int .i64 0,.int .i64 0,.int .i64 0,.int .i64 0,.string ⟨#[]⟩,.int .i64 0]) rfl rfl rfl fun w4 H=> ?_
 exact H.ldT (i := 0) (ts := LiA30) (pre := []) (post := []) (x := usualG) rfl rfl ⟨rfl,H.ext⟩
def pf (b : Nat) : FT := (⟨#[70]⟩,false,97,⟨some ⟨b,0,none⟩,1,1⟩,250,⟨none,0,0⟩,⟨none,0,0⟩)
theorem c_face (w : World) : C27 w fun r w1=> FoV w1 r faceF /\ Ext (fun _=> False) w w1 := by
 refine T27 _ _ ?_
 unfold S27
 refine (Hn.start w).nw fun w1 H=> H.nw fun w2 H=> ?_
 refine H.stT (i := 0) (ts := LiA34) (pre := []) (post := []) (x := pf w1.heap.size) (zs := [.string ⟨#[]⟩,.bool false,.int .i64 0,Slc.v ⟨none,0,0⟩,.int .i64 0,Slc.v ⟨none,0,0⟩,Slc.v ⟨none,0,0⟩]) rfl rfl rfl fun w3 H=> ?_
 refine H.ldT (i := 0) (ts := LiA34) (pre := []) (post := []) (x := pf w1.heap.size) rfl rfl ⟨?_,H.ext⟩
 exact { name := rfl,wide := rfl,first := rfl,missing := rfl,widths := VRow.of (H.get 1 rfl) (by decide),names := Row.view (Row.nil _ 9 _),maps := Row.view (Row.nil _ 9 _),
         ifirst := by unfold I64; decide,szn := by decide,lw := by decide,ln := by decide,lm := by decide,szs := fun s hs=> (List.not_mem_nil hs).elim,szm := fun s hs=> (List.not_mem_nil hs).elim }
def obS (s : ByteArray) : Ob := (4,0,0,s,⟨none,0,0⟩,⟨none,0,0⟩)
theorem c_said (nm s : ByteArray) (w : World) : C28 nm s w fun r w1=> r.1 = nm /\ r.2.2 = ⟨#[]⟩ /\ OV w1 r.2.1 [obS s] /\ Ext (fun _=> False) w w1 := by
 refine T28 _ _ _ _ ?_
 unfold S28
 refine (Hn.start w).nw fun w3 H=> H.nw fun w4 H=> ?_
 iterate 3 (refine H.st 0 rfl (by simp) fun _ H=> ?_; simp only [List.nil_append,List.cons_append,List.set_cons_zero,List.set_cons_succ,Nat.zero_add] at H)
 iterate 3 refine H.ld 0 rfl rfl ?_
 exact ⟨rfl,rfl,OV.of (L := [obS s]) (H.get 1 rfl),H.ext⟩
structure LV (w0 u : World) (mb fb : Nat) (m : Mc) (x : FT) : Prop where
 ext : Ext (fun _=> False) w0 u
 fblk : Blk u fb (fol x).toArray TF
 mblk : Blk u mb (mcc m).toArray TK
 lt : fb < mb
 ge : w0.heap.size <= fb
section
variable {w0 u u' : World} {mb fb : Nat} {m : Mc} {x : FT}
theorem LV.keep (h : LV w0 u mb fb m x) (e : Ext (fun _=> False) u u') : LV w0 u' mb fb m x := ⟨h.ext.tr e,e.blk h.fblk id,e.blk h.mblk id,h.lt,h.ge⟩
theorem LV.drew (h : LV w0 u mb fb m x) : LV w0 u.drew mb fb m x := h.keep (Ext.refl _ _).drew
theorem LV.face (h : LV w0 u mb fb m x) {K : FT -> Prop} (k : K x) : LdST (Ext (fun _=> False) u) (⟨fb,0,none⟩ : Addr) 0 LiA34 K :=
 LdST.blk (ts := LiA34) (pre := []) (post := []) (t := TF) (x := x) (fun w' hw=> hw.blk h.fblk id) rfl k
theorem LV.step (h : LV w0 u mb fb m x) (hT : TB w0) (hx : FoV w0 x faceF) {o : OpT} {L K : List Ob} {nm : Opr.By} (hnm : Opr.bl o.1 = nm) (hd : Opr.bl o.2.2 = []) (hO : OpV u o L K) {e : Int} {m' : Mc} {gl : List GlT} (hF : doF usualG faceF m nm L K [] = (e,m',gl)) :
  C13 (some (⟨mb,0,none⟩ : Addr)) o usualG x u fun r e' u'=> e' = e /\ LV w0 u' mb fb m' x /\ VRow u' r 9 (gl.flatMap glc) /\ Ext (· = mb) u u' /\ ∀ j,r.own j -> mb < j := by
 refine (c_Do (g := usualG) (hT.keep h.ext) (hx.keep h.ext) h.mblk hO).mono ?_
 rintro r e' u' ⟨mc,gl',hF',hb,he,hv,ho⟩
 rw [hnm,hd,hF] at hF'
 cases hF'
 have hml := h.mblk.lt
 refine ⟨rfl,⟨ext_new h.ext he fun j hj=> ?_,he.blk h.fblk fun e=> ?_,hb,h.lt,h.ge⟩,hv,he,fun j hj=> ?_⟩
 ·have hj : j = mb := hj
  have := h.lt
  have := h.ge
  omega
 ·have e : fb = mb := e
  have := h.lt
  omega
 ·have := ho j hj
  omega
theorem opv0 (nm : ByteArray) (w : World) : OpV w (nm,⟨none,0,0⟩,⟨#[]⟩) [] [] :=
 ⟨⟨rfl,rfl,fun j v h=> by cases h⟩,fun h=> absurd h (by decide),by decide,by decide,fun k hk=> (List.not_mem_nil hk).elim,fun k hk=> (List.not_mem_nil hk).elim⟩
theorem ov_nil (w : World) : OV w ⟨none,0,0⟩ [] := ⟨rfl,rfl,fun j v h=> by cases h⟩
end
end Ma
end Go.Proofs.YtcblpehnkogfdaaGreatDoor
namespace Go.Proofs.YtcblpehnkogfdaaGreatDoor
namespace Ma
open Sh Mat Fix Fo Sw Opr Pat
set_option maxRecDepth 8000
set_option maxHeartbeats 4000000
theorem grl_set1 (c d : Int) : ((grl (usual2 0 0 c d)).set 22 (.int .i64 1)).set 23 (.int .i64 3) = grl (usual2 1 3 c d) := by simp only [grl,usual2,List.set]
theorem grl_set2 (a b c d e : Int) : (grl (usual2 a b c d)).set 24 (.int .i64 e) = grl (usual2 a b e d) := by simp only [grl,usual2,List.set]
theorem grl_set3 (a b c d e : Int) : (grl (usual2 a b c d)).set 26 (.int .i64 e) = grl (usual2 a b c e) := by simp only [grl,usual2,List.set]
attribute [local irreducible] Ld Sh.St Nw Nn Lt LdS
section
variable {w w0 u : World} {mb fb : Nat} {m : Mc} {x : FT}
def gl1 : List GlT := [(97,⟨#[97]⟩,20000,5000,70000,5000,100000,⟨#[70]⟩,0),(98,⟨#[98]⟩,70000,5000,95000,5000,100000,⟨#[70]⟩,0)]
def gl2 : List GlT := [(97,⟨#[97]⟩,95000,5000,145000,5000,100000,⟨#[70]⟩,0),(97,⟨#[97]⟩,245000,5000,295000,5000,100000,⟨#[70]⟩,0)]
theorem at_glyph {w : World} {s : Slc} {L : List GlT} (h : VRow w s 9 (L.flatMap glc)) {i : Nat} (hi : i < L.length) : ∃ a,s.p = some a /\ ∀ j v,(glc L[i])[j]? = some v -> w.cell? ((a.add (i * 9)).add j) = some v := by
 obtain ⟨a,ha,hc⟩ := VRow.elem glc_len h (List.getElem?_eq_getElem hi) (by decide)
 exact ⟨a,ha,fun j v hj=> by rw [add_add']; exact hc j v hj⟩
theorem l_J1 {vw5 vw101 : World} (hfb : fb = vw5.heap.size) {wb : World} (hB : Ext (fun _=> False) wb w0) (hT : TB w0) (hx : FoV w0 x faceF) {l : Mx} (h : LV w0 u mb fb ⟨true,moveM 295000 5000,l⟩ x) {r97 r131 : Slc} (h1 : VRow u r97 9 (gl1.flatMap glc)) (o1 : ∀ j,r97.own j -> mb < j) (h2 : VRow u r131 9 (gl2.flatMap glc)) (o2 : ∀ j,r131.own j -> mb < j)
  (ht : Blk u vw101.heap.size (mrow (moveM 95000 5000)).toArray TM) (hlt : mb < vw101.heap.size) : S10J1 vw5 (some (⟨mb,0,none⟩ : Addr)) 29 0 29 0 r97 0 vw101 (r131,0) 8 (fun r w1=> r = true /\ Ext (fun _=> False) wb w1) 28 u := by
 unfold S10J1
 refine (c_on h.mblk).mono ?_
 rintro r164 w165 ⟨rfl,rfl⟩
 have hD := h.drew
 subst hfb
 refine ⟨Ext (fun _=> False) w165.drew,Ext.refl _ _,hD.face ?_⟩
 refine (c_usually _).mono ?_
 rintro r168 w169 ⟨rfl,e169⟩
 refine ⟨e169,((hD.keep e169).step hT hx (nm := [69,84]) rfl rfl (opv0 _ _) (do_et (K := []) rfl)).mono ?_⟩
 rintro r170 r171 u ⟨rfl,hL,_,eu,_⟩
 have E0 : Ext (fun _=> False) w165 w169 := (Ext.refl (fun _=> False) w165).drew.tr e169
 have v1 := (h1.keep E0).keepF eu fun j hj e=> by
  have := o1 j hj
  have e : j = mb := e
  omega
 have v2 := (h2.keep E0).keepF eu fun j hj e=> by
  have := o2 j hj
  have e : j = mb := e
  omega
 have ht := eu.blk (E0.blk ht id) fun e=> by
  have e : vw101.heap.size = mb := e
  omega
 have n1 := VRow.count glc_len (by decide) v1
 have n2 := VRow.count glc_len (by decide) v2
 obtain ⟨a,ha,ca⟩ := at_glyph v1 (i := 0) (by decide)
 obtain ⟨a',ha',cb⟩ := at_glyph v1 (i := 1) (by decide)
 rw [ha] at ha'
 cases ha'
 obtain ⟨c,hc,cc⟩ := at_glyph v2 (i := 0) (by decide)
 obtain ⟨c',hc',cd⟩ := at_glyph v2 (i := 1) (by decide)
 rw [hc] at hc'
 cases hc'
 rw [n1,ha]
 dsimp only
 rw [n2,hc]
 refine Br.ne (fun q=> absurd rfl q) fun _=> Br.ne (fun q=> absurd rfl q) fun _=> Br.ne (fun q=> absurd rfl q) fun _=> Br.ne (fun q=> absurd rfl q) fun _=> Br.ne (fun q=> absurd rfl q) fun _=> Br.ne (fun q=> absurd rfl q) fun _=> ⟨by decide,by decide,Nn.of ?_⟩
 refine LdT.any LiA69 0 gl1[0] _ (fun j v hj=> by rw [Nat.zero_add]; exact ca j v hj) ?_
 refine Lt.of (Sh.Br.f (by simp [gl1]) ⟨by decide,by decide,Nn.of ?_⟩)
 refine Ld.mk (x := 70000) (cb 2 _ rfl) (Br.ne (fun q=> absurd rfl q) fun _=> ⟨by decide,by decide,Nn.of ?_⟩)
 refine Ld.mk (x := 95000) (cb 4 _ rfl) (Br.ne (fun q=> absurd rfl q) fun _=> ?_)
 refine Ld.of ht (x := 95000) rfl (Br.ne (fun q=> absurd rfl q) fun _=> Ld.of ht (x := 5000) rfl (Br.ne (fun q=> absurd rfl q) fun _=> ?_))
 refine Sh.Br.t rfl (Sh.Br.t (by decide) ⟨by decide,by decide,Nn.of ?_⟩)
 refine Ld.mk (x := 95000) (cc 2 _ rfl) (Sh.Br.t (by decide) ⟨by decide,by decide,Nn.of ?_⟩)
 refine Ld.mk (x := 245000) (cd 2 _ rfl) (Sh.Br.t (by decide) (Sh.Br.t (by decide) (Sh.Br.t (by decide) (Sh.Br.t rfl (Sh.Br.t (by decide) ?_)))))
 refine (c_on hL.mblk).mono ?_
 rintro r195 w196 ⟨rfl,rfl⟩
 refine Sh.Br.t rfl ((c_matrix hL.mblk).mono ?_)
 rintro r197 w198 ⟨rfl,e198⟩
 refine (Mat.r_one _).mono ?_
 rintro r199 w200 ⟨rfl,e200⟩
 exact Lt.of ⟨by decide,hB.tr (hL.ext.tr (e198.tr e200))⟩
theorem opvA {w : World} {s : Slc} {o : Ob} {K : List Ob} {nm : ByteArray} (h : OV w s [o]) (hk : OV w o.2.2.2.2.2 K) (hl : K.length <= 9223372036854775807) (h1 : o.2.2.2.1.size <= 1048576) (h2 : ∀ k ∈ K,k.2.2.2.1.size <= 1048576) : OpV w (nm,s,⟨#[]⟩) [o] K :=
 ⟨h,fun _=> hk,by simp,hl,fun k hm=> by rw [List.mem_singleton.1 hm]; exact h1,h2⟩
def obA (b n : Nat) : Ob := (6,0,0,⟨#[]⟩,⟨none,0,0⟩,⟨some ⟨b,0,none⟩,n,n⟩)
def obN : Ob := (0,0,0,⟨#[]⟩,⟨none,0,0⟩,⟨none,0,0⟩)
def obI (n : Int) : Ob := (2,n,0,⟨#[]⟩,⟨none,0,0⟩,⟨none,0,0⟩)
theorem l_J2 {vw5 vw101 : World} (hfb : fb = vw5.heap.size) {wb : World} (hB : Ext (fun _=> False) wb w0) (hT : TB w0) (hx : FoV w0 x faceF) {l : Mx} (h : LV w0 u mb fb ⟨true,moveM 295000 5000,l⟩ x) {r97 r131 : Slc} (h1 : VRow u r97 9 (gl1.flatMap glc)) (o1 : ∀ j,r97.own j -> mb < j) (h2 : VRow u r131 9 (gl2.flatMap glc)) (o2 : ∀ j,r131.own j -> mb < j)
  (ht : Blk u vw101.heap.size (mrow (moveM 95000 5000)).toArray TM) (hlt : mb < vw101.heap.size) : S10J2 vw5 (some (⟨mb,0,none⟩ : Addr)) 29 0 29 0 r97 0 vw101 (fun r w1=> r = true /\ Ext (fun _=> False) wb w1) (r131,0) u := by
 unfold S10J2
 have hD := h.drew
 have hml := h.mblk.lt
 subst hfb
 refine ⟨Ext (fun _=> False) u.drew,Ext.refl _ _,hD.face ?_⟩
 refine (c_usually _).mono ?_
 rintro r135 w136 ⟨rfl,e136⟩
 have E0 : Ext (fun _=> False) u w136 := (Ext.refl (fun _=> False) u).drew.tr e136
 refine ⟨e136,((hD.keep e136).step hT hx (nm := [113]) rfl rfl (opv0 _ _) (do_q (K := []))).mono ?_⟩
 rintro r137 r138 w139 ⟨rfl,hL,_,eu,_⟩
 have hu : Ext (· = mb) u w139 := E0.trans eu (fun _ h=> h.elim) fun _ _ h=> h
 have keep : ∀ {w2 : World} {r : Slc} {L : List GlT},Ext (· = mb) u w2 -> VRow u r 9 (L.flatMap glc) -> (∀ j,r.own j -> mb < j) -> VRow w2 r 9 (L.flatMap glc) := fun {w2 r L} e hv ho=> hv.keepF e fun j hj e=> by
  have := ho j hj
  have e : j = mb := e
  omega
 refine ⟨fun st w1=> st = 28 /\ Ext (· = mb) u w1 /\ LV w0 w1 mb vw5.heap.size ⟨true,moveM 295000 5000,l⟩ x,?_,?_⟩
 ·rintro _ w1 ⟨rfl,e1,hl1⟩
  exact l_J1 rfl hB hT hx hl1 (keep e1 h1 o1) o1 (keep e1 h2 o2) o2 (e1.blk ht fun e=> by
   have e : vw101.heap.size = mb := e
   omega) hlt
 have hLD := hL.drew
 have huD : Ext (· = mb) u w139.drew := hu.drew
 refine ⟨Ext (fun _=> False) w139.drew,Ext.refl _ _,hLD.face ?_⟩
 have go : ∀ {b1 : Nat} {s : Slc} {w2 : World},Ext (fun _=> False) w139.drew w2 -> OV w2 s [obA b1 1] -> OV w2 (obA b1 1).2.2.2.2.2 [obN] -> C13 (some (⟨mb,0,none⟩ : Addr)) ((⟨#[84,74]⟩ : ByteArray),s,(⟨#[]⟩ : ByteArray)) usualG x w2 fun r e w1=>
   e = 28 /\ Ext (· = mb) u w1 /\ LV w0 w1 mb vw5.heap.size ⟨true,moveM 295000 5000,l⟩ x := fun {b1 s w2} e2 hs hk=>
  ((hLD.keep e2).step hT hx (nm := [84,74]) rfl rfl (opvA hs hk (by decide) (by show (⟨#[]⟩ : ByteArray).size <= 1048576; decide) (by decide)) (do_arr_no (o := obA b1 1) (K := [obN]) rfl rfl (by decide))).mono fun r e w1 h1=> ⟨h1.1,(huD.trans e2 (fun _ h=> h) fun _ _ h=> h.elim).trans h1.2.2.2.1 (fun _ h=> h) fun _ _ h=> h,h1.2.1⟩
 refine ⟨(Hn.start w139.drew).nw fun w205 H=> ⟨H.ext,?_,?_⟩,?_⟩
 ·refine H.nw fun w206 H=> ⟨H.ext,(c_usually _).mono ?_⟩
  rintro r207 w208 ⟨rfl,e208⟩
  have H := H.keep e208
  refine ⟨H.ext,(go (b1 := w139.drew.heap.size) H.ext (OV.of (L := [obA w139.drew.heap.size 1]) (H.get 1 rfl)) (OV.of (L := [obN]) (H.get 0 rfl))).mono fun r e w1 h1=> h1⟩
 ·refine (c_usually _).mono ?_
  rintro r207 w208 ⟨rfl,e208⟩
  have H := H.keep e208
  refine ⟨H.ext,H.nw fun w214 H=> ⟨H.ext,(go (b1 := w139.drew.heap.size) H.ext (OV.of (L := [obA w139.drew.heap.size 1]) (H.get 1 rfl)) (OV.of (L := [obN]) (H.get 0 rfl))).mono fun r e w1 h1=> h1⟩⟩
 ·refine (c_usually _).mono ?_
  rintro r207 w208 ⟨rfl,e208⟩
  refine ⟨e208,((Hn.start w139.drew).keep e208).nw fun w220 H=> ⟨H.ext,H.nw fun w221 H=> ⟨H.ext,(go (b1 := w208.heap.size) H.ext (OV.of (L := [obA w208.heap.size 1]) (H.get 1 rfl)) (OV.of (L := [obN]) (H.get 0 rfl))).mono fun r e w1 h1=> h1⟩⟩⟩
theorem l_J3 {vw5 : World} (hfb : fb = vw5.heap.size) {wb : World} (hB : Ext (fun _=> False) wb w0) (hT : TB w0) (hx : FoV w0 x faceF) {l : Mx} (h : LV w0 u mb fb ⟨true,moveM 20000 5000,l⟩ x) :
  S10J3 vw5 (some (⟨mb,0,none⟩ : Addr)) 29 0 29 (fun r w1=> r = true /\ Ext (fun _=> False) wb w1) 0 u := by
 unfold S10J3
 have hD := h.drew
 have hml := h.mblk.lt
 subst hfb
 refine ⟨Ext (fun _=> False) u.drew,Ext.refl _ _,hD.face ?_⟩
 refine (c_said _ _ _).mono ?_
 rintro r93 w94 ⟨q1,q2,q3,e94⟩
 refine ⟨e94,(c_usually _).mono ?_⟩
 rintro r95 w96 ⟨rfl,e96⟩
 have E96 := e94.tr e96
 have hO : OpV w96 r93 [obS ⟨#[97,98]⟩] [] := ⟨q3.keep e96,fun _=> ov_nil _,by simp,by simp,fun k hm=> by rw [List.mem_singleton.1 hm]; decide,fun k hm=> (List.not_mem_nil hm).elim⟩
 refine ⟨E96,((hD.keep E96).step hT hx (nm := [84,106]) (by rw [q1]) (by rw [q2]) hO (do_tj (m' := m0) (K := []) (o := obS ⟨#[97,98]⟩) rfl rfl str0 (by decide))).mono ?_⟩
 rintro r97 r98 w99 ⟨rfl,hL,hv,eu,ho⟩
 refine (c_matrix hL.mblk).mono ?_
 rintro r100 w101 ⟨rfl,e101⟩
 have hm101 := (hL.keep e101).mblk.lt
 refine mk_mx w101 (moveM 95000 5000) fun w108 e108 hb108=> ?_
 have hL := (hL.keep e101).keep e108
 have hv := (hv.keep e101).keep e108
 have keep : ∀ {w2 : World},Ext (· = mb) w108 w2 -> VRow w2 r97 9 (gl1.flatMap glc) := fun {w2} e=> hv.keepF e fun j hj e=> by
  have := ho j hj
  have e : j = mb := e
  omega
 refine ⟨fun st w1=> ∃ r,st = (r,0) /\ Ext (· = mb) w108 w1 /\ LV w0 w1 mb vw5.heap.size ⟨true,moveM 295000 5000,l⟩ x /\ VRow w1 r 9 (gl2.flatMap glc) /\ ∀ j,r.own j -> mb < j,?_,?_⟩
 ·rintro _ w1 ⟨r,rfl,e1,hl1,hv2,ho2⟩
  exact l_J2 rfl hB hT hx hl1 (keep e1) ho hv2 ho2 (e1.blk hb108 fun e=> by
   have e : w101.heap.size = mb := e
   omega) hm101
 have hLD := hL.drew
 have huD : Ext (· = mb) w108 w108.drew := (Ext.refl _ _).drew
 refine ⟨Ext (fun _=> False) w108.drew,Ext.refl _ _,hLD.face ?_⟩
 have go : ∀ {b1 : Nat} {s : Slc} {w2 : World},Ext (fun _=> False) w108.drew w2 -> OV w2 s [obA b1 3] -> OV w2 (obA b1 3).2.2.2.2.2 [obS ⟨#[97]⟩,obI (-1000),obS ⟨#[97]⟩] -> C13 (some (⟨mb,0,none⟩ : Addr)) ((⟨#[84,74]⟩ : ByteArray),s,(⟨#[]⟩ : ByteArray)) usualG x w2 fun r e w1=>
   ∃ r',(r,e) = (r',0) /\ Ext (· = mb) w108 w1 /\ LV w0 w1 mb vw5.heap.size ⟨true,moveM 295000 5000,l⟩ x /\ VRow w1 r' 9 (gl2.flatMap glc) /\ ∀ j,r'.own j -> mb < j := fun {b1 s w2} e2 hs hk=>
  ((hLD.keep e2).step hT hx (nm := [84,74]) rfl rfl (opvA hs hk (by decide) (by show (⟨#[]⟩ : ByteArray).size <= 1048576; decide) (by decide)) (do_arr (o := obA b1 3) (K := [obS ⟨#[97]⟩,obI (-1000),obS ⟨#[97]⟩]) rfl rfl (by decide) (row_sample rfl rfl rfl rfl rfl rfl))).mono fun r e w1 h1=> ⟨r,by rw [h1.1],(huD.trans e2 (fun _ h=> h) fun _ _ h=> h.elim).trans h1.2.2.2.1 (fun _ h=> h) fun _ _ h=> h,h1.2.1,h1.2.2.1,h1.2.2.2.2⟩
 refine ⟨(Hn.start w108.drew).nw fun w205 H=> ⟨H.ext,?_,?_⟩,?_⟩
 ·refine H.nw fun w206 H=> ⟨H.ext,(c_usually _).mono ?_⟩
  rintro r207 w208 ⟨rfl,e208⟩
  have H := H.keep e208
  refine ⟨H.ext,(go (b1 := w108.drew.heap.size) H.ext (OV.of (L := [obA w108.drew.heap.size 3]) (H.get 1 rfl)) (OV.of (L := [obS ⟨#[97]⟩,obI (-1000),obS ⟨#[97]⟩]) (H.get 0 rfl))).mono fun r e w1 h1=> h1⟩
 ·refine (c_usually _).mono ?_
  rintro r207 w208 ⟨rfl,e208⟩
  have H := H.keep e208
  refine ⟨H.ext,H.nw fun w214 H=> ⟨H.ext,(go (b1 := w108.drew.heap.size) H.ext (OV.of (L := [obA w108.drew.heap.size 3]) (H.get 1 rfl)) (OV.of (L := [obS ⟨#[97]⟩,obI (-1000),obS ⟨#[97]⟩]) (H.get 0 rfl))).mono fun r e w1 h1=> h1⟩⟩
 ·refine (c_usually _).mono ?_
  rintro r207 w208 ⟨rfl,e208⟩
  refine ⟨e208,((Hn.start w108.drew).keep e208).nw fun w220 H=> ⟨H.ext,H.nw fun w221 H=> ⟨H.ext,(go (b1 := w208.heap.size) H.ext (OV.of (L := [obA w208.heap.size 3]) (H.get 1 rfl)) (OV.of (L := [obS ⟨#[97]⟩,obI (-1000),obS ⟨#[97]⟩]) (H.get 0 rfl))).mono fun r e w1 h1=> h1⟩⟩⟩
end
end Ma
end Go.Proofs.YtcblpehnkogfdaaGreatDoor
namespace Go.Proofs.YtcblpehnkogfdaaGreatDoor
namespace Ma
open Sh Mat Fix Fo Sw Opr Pat
set_option maxRecDepth 8000
set_option maxHeartbeats 4000000
attribute [local irreducible] Ld Sh.St Nw Nn Lt LdS
def obR (n : Int) : Ob := (3,n,0,⟨#[]⟩,⟨none,0,0⟩,⟨none,0,0⟩)
def noneX : FT := (⟨#[]⟩,false,0,⟨none,0,0⟩,0,⟨none,0,0⟩,⟨none,0,0⟩)
theorem none_fo (w : World) : FoV w noneX noneF :=
 { name := rfl,wide := rfl,first := rfl,missing := rfl,widths := Row.view (Row.nil _ 9 _),names := Row.view (Row.nil _ 9 _),maps := Row.view (Row.nil _ 9 _),
   ifirst := by unfold I64; decide,szn := by decide,lw := by decide,ln := by decide,lm := by decide,szs := fun s hs=> (List.not_mem_nil hs).elim,szm := fun s hs=> (List.not_mem_nil hs).elim }
theorem c_lives {w : World} (hT : TB w) : C10 w fun r w1=> r = true /\ Ext (fun _=> False) w w1 := by
 refine T10 _ _ ?_
 unfold S10
 refine (c_usually _).mono ?_
 rintro r1 w2 ⟨rfl,e2⟩
 refine (c_face _).mono ?_
 rintro x w4 ⟨hx,e4⟩
 have E4 := e2.tr e4
 have hT := hT.keep E4
 refine (Hn.start w4).nw fun w5 H=> H.nw fun w6 H=> ?_
 have hlt : w4.heap.size < w5.heap.size := (Hn.left (M := [(w5.heap.size,[.string ⟨#[]⟩,.bool false,.int .i64 0,Slc.v ⟨none,0,0⟩,.int .i64 0,Slc.v ⟨none,0,0⟩,Slc.v ⟨none,0,0⟩],TF)]) H).ge 0 rfl |> fun _=> H.lt 0 rfl |> fun _=> by
  have h1 := H.h.nodup
  rw [arr_fst] at h1
  have h2 := H.ge 1 rfl
  have h3 : w4.heap.size ≠ w5.heap.size := by
   intro e
   simp [e] at h1
  omega
 refine H.stT (i := 0) (ts := LiA30) (pre := []) (post := []) (x := usualG) (zs := [.int .i64 0,.int .i64 0,.int .i64 0,.int .i64 0,.int .i64 0,.int .i64 0,.int .i64 0,.int .i64 0,.int .i64 0,.int .i64 0,Slc.v ⟨none,0,0⟩,.int .i64 0,.int .i64 0,.int .i64 0,.int .i64 0,.int .i64 0,.int .i64 0,.int .i64 0,.int .i64 0,.int .i64 0,.int .i64 0,.int .i64 0,.int .i64 0,.int .i64 0,.int .i64 0,.int .i64 0,.int .i64 0,.int .i64 0,.string ⟨#[]⟩,.int .i64 0]) rfl rfl rfl fun w7 H=> ?_
 refine H.stT (i := 1) (ts := LiA34) (pre := []) (post := []) (x := x) (zs := [.string ⟨#[]⟩,.bool false,.int .i64 0,Slc.v ⟨none,0,0⟩,.int .i64 0,Slc.v ⟨none,0,0⟩,Slc.v ⟨none,0,0⟩]) rfl rfl rfl fun w8 H=> ?_
 have H : Hn w4 w8 [(w4.heap.size,grl (usual2 0 0 1000000 100000),TG),(w5.heap.size,fol x,TF)] := H
 have stp : ∀ {u : World} {a b c d code : Int} {ab : Int × Int},Hn w4 u [(w4.heap.size,grl (usual2 a b c d),TG),(w5.heap.size,fol x,TF)] -> I64 code -> stepF (usual2 a b c d) faceF code = ab -> ∀ {K : Int -> Int -> World -> Prop},(∀ u',Hn w4 u' [(w4.heap.size,grl (usual2 a b c d),TG),(w5.heap.size,fol x,TF)] -> K ab.1 ab.2 u') ->
   LdT u (⟨w4.heap.size,0,none⟩ : Addr) 0 LiA30 fun (x9 : GT)=> LdT u (⟨w5.heap.size,0,none⟩ : Addr) 0 LiA34 fun (x10 : FT)=> C11 x9 x10 code u K := fun {u a b c d code ab} H hc hs {K} k=> by
  refine H.ldT (i := 0) (ts := LiA30) (pre := []) (post := []) (x := usual2 a b c d) rfl rfl ?_
  refine H.ldT (i := 1) (ts := LiA34) (pre := []) (post := []) (x := x) rfl rfl ?_
  refine (c_stepW (g := usual2 a b c d) (hT.keep H.ext) (hx.keep H.ext) hc).mono ?_
  rintro r e u' ⟨hr,e'⟩
  rw [hs] at hr
  obtain ⟨rfl,rfl⟩ := Prod.mk.inj hr
  exact k u' (H.keep e')
 refine stp H (by unfold I64; decide) step1 fun w13 H=> ?_
 refine H.st 0 (o := 22) rfl (by show 22 < 30; decide) fun w14 H=> H.st 0 (o := 23) rfl (by show 23 < 30; decide) fun w15 H=> ?_
 have H : Hn w4 w15 [(w4.heap.size,grl (usual2 1 3 1000000 100000),TG),(w5.heap.size,fol x,TF)] := by rw [<- grl_set1]; exact H
 refine stp H (by unfold I64; decide) step2 fun w20 H=> stp H (by unfold I64; decide) step3 fun w25 H=> ?_
 refine (c_usually _).mono ?_
 rintro r26 w27 ⟨rfl,e27⟩
 have H := H.keep e27
 refine H.stT (i := 0) (ts := LiA30) (pre := []) (post := []) (x := usualG) (zs := grl (usual2 1 3 1000000 100000)) rfl rfl rfl fun w28 H=> ?_
 have H : Hn w4 w28 [(w4.heap.size,grl (usual2 0 0 1000000 100000),TG),(w5.heap.size,fol x,TF)] := H
 refine H.st 0 (o := 24) rfl (by show 24 < 30; decide) fun w29 H=> ?_
 have H : Hn w4 w29 [(w4.heap.size,grl (usual2 0 0 500000 100000),TG),(w5.heap.size,fol x,TF)] := by rw [<- grl_set2 0 0 1000000 100000 500000]; exact H
 refine stp H (by unfold I64; decide) step4 fun w34 H=> ?_
 refine H.st 0 (o := 26) rfl (by show 26 < 30; decide) fun w35 H=> ?_
 have H : Hn w4 w35 [(w4.heap.size,grl (usual2 0 0 500000 1073741825),TG),(w5.heap.size,fol x,TF)] := by rw [<- grl_set3 0 0 500000 100000 1073741825]; exact H
 refine stp H (by unfold I64; decide) step5 fun w40 H=> ?_
 refine (c_usually _).mono ?_
 rintro r41 w42 ⟨rfl,e42⟩
 have H := H.keep e42
 refine (c_stepW (g := usualG) (x := noneX) (hT.keep H.ext) (none_fo _) (code := 97) (by unfold I64; decide)).mono ?_
 rintro r43 r44 w45 ⟨hr,e45⟩
 rw [step6] at hr
 obtain ⟨rfl,rfl⟩ := Prod.mk.inj hr
 have H := H.keep e45
 refine (c_new _).mono ?_
 rintro r46 w47 ⟨mb,rfl,hge,hmb,e47⟩
 have hf5 := H.lt 1 rfl
 have H := H.keep e47
 have hL : LV w4 w47 mb w5.heap.size m0 x := ⟨H.ext,H.get 1 rfl,hmb,by omega,by omega⟩
 refine Sh.Br.f rfl ((c_on hL.mblk).mono ?_)
 rintro r50 w51 ⟨rfl,rfl⟩
 refine Sh.Br.f rfl (Br.ne (fun q=> absurd rfl q) fun _=> Br.ne (fun q=> absurd rfl q) fun _=> Br.ne (fun q=> absurd rfl q) fun _=> Br.ne (fun q=> absurd rfl q) fun _=> Br.ne (fun q=> absurd rfl q) fun _=> Br.ne (fun q=> absurd rfl q) fun _=> Br.ne (fun q=> absurd rfl q) fun _=> Br.ne (fun q=> absurd rfl q) fun _=> Br.ne (fun q=> absurd rfl q) fun _=> Br.ne (fun q=> absurd rfl q) fun _=> ?_)
 have hD := hL.drew
 refine ⟨Ext (fun _=> False) w51.drew,Ext.refl _ _,hD.face ?_⟩
 refine (c_said _ _ _).mono ?_
 rintro r54 w55 ⟨q1,q2,q3,e55⟩
 refine ⟨e55,(c_usually _).mono ?_⟩
 rintro r56 w57 ⟨rfl,e57⟩
 have E57 := e55.tr e57
 have hO : OpV w57 r54 [obS ⟨#[97]⟩] [] := ⟨q3.keep e57,fun _=> ov_nil _,by simp,by simp,fun k hm=> by rw [List.mem_singleton.1 hm]; decide,fun k hm=> (List.not_mem_nil hm).elim⟩
 refine ⟨E57,((hD.keep E57).step hT hx (nm := [84,106]) (by rw [q1]) (by rw [q2]) hO (do_tj_off (K := []) (o := obS ⟨#[97]⟩) rfl rfl)).mono ?_⟩
 rintro r58 r59 w60 ⟨rfl,hL,_,_,_⟩
 have hD := hL.drew
 refine ⟨Ext (fun _=> False) w60.drew,Ext.refl _ _,hD.face ?_⟩
 refine (c_usually _).mono ?_
 rintro r63 w64 ⟨rfl,e64⟩
 refine ⟨e64,((hD.keep e64).step hT hx (nm := [66,84]) rfl rfl (opv0 _ _) (do_bt (K := []) rfl)).mono ?_⟩
 rintro r65 r66 w67 ⟨rfl,hL,_,_,_⟩
 have hD := hL.drew
 refine ⟨Ext (fun _=> False) w67.drew,Ext.refl _ _,hD.face ?_⟩
 refine (c_usually _).mono ?_
 rintro r70 w71 ⟨rfl,e71⟩
 refine ⟨e71,((hD.keep e71).step hT hx (nm := [66,84]) rfl rfl (opv0 _ _) (do_bt2 (K := []) rfl)).mono ?_⟩
 rintro r72 r73 w74 ⟨rfl,hL,_,_,_⟩
 refine ⟨fun st w1=> st = 0 /\ LV w4 w1 mb w5.heap.size ⟨true,moveM 20000 5000,moveM 20000 5000⟩ x,?_,?_⟩
 ·rintro _ w1 ⟨rfl,h1⟩
  exact l_J3 (vw5 := w5) rfl E4 hT hx h1
 have hD := hL.drew
 refine ⟨Ext (fun _=> False) w74.drew,Ext.refl _ _,hD.face ?_⟩
 have go : ∀ {s : Slc} {w2 : World},Ext (fun _=> False) w74.drew w2 -> OV w2 s [obI 2,obR 5000] -> C13 (some (⟨mb,0,none⟩ : Addr)) ((⟨#[84,100]⟩ : ByteArray),s,(⟨#[]⟩ : ByteArray)) usualG x w2 fun r e w1=>
   e = 0 /\ LV w4 w1 mb w5.heap.size ⟨true,moveM 20000 5000,moveM 20000 5000⟩ x := fun {s w2} e2 hs=>
  ((hD.keep e2).step hT hx (nm := [84,100]) (L := [obI 2,obR 5000]) (K := []) rfl rfl ⟨hs,fun _=> ov_nil _,by simp,by simp,fun k hm=> by
    rcases List.mem_cons.1 hm with rfl | hm
    ·decide
    ·rw [List.mem_singleton.1 hm]; decide,fun k hm=> (List.not_mem_nil hm).elim⟩ (do_td (a := obI 2) (b := obR 5000) (x := 20000) (y := 5000) (l := moveM 20000 5000) rfl (by decide) (by decide) (.inl rfl) (.inr rfl) (by decide))).mono fun r e w1 h1=> ⟨h1.1,h1.2.1⟩
 refine ⟨(Hn.start w74.drew).nw fun w251 H=> ⟨H.ext,(c_usually _).mono ?_⟩,(c_usually _).mono ?_⟩
 ·rintro r252 w253 ⟨rfl,e253⟩
  have H := H.keep e253
  exact ⟨H.ext,(go H.ext (OV.of (L := [obI 2,obR 5000]) (H.get 0 rfl))).mono fun r e w1 h1=> h1⟩
 ·rintro r257 w258 ⟨rfl,e258⟩
  refine ⟨e258,((Hn.start w74.drew).keep e258).nw fun w259 H=> ⟨H.ext,(go H.ext (OV.of (L := [obI 2,obR 5000]) (H.get 0 rfl))).mono fun r e w1 h1=> h1⟩⟩
end Ma
end Go.Proofs.YtcblpehnkogfdaaGreatDoor

/- Shown strings: a state and a font as arguments; the laid tables. Conditions: none. -/
namespace Go.Proofs.YtcblpehnkogfdaaGreatDoor
namespace Sw
open Sh Mat Fix Fo
open Go.ChangeShapes Go.WideShapes Go.ChangeAt Go.RowKit
set_option maxRecDepth 100000
set_option maxHeartbeats 2000000
theorem u8x : U8Extra Tryz.prog Tryz.lays196_ren := { n3 := by kernel_rfl,n4 := by kernel_rfl,y3 := by kernel_rfl,y4 := by kernel_rfl,c5 := by kernel_rfl,c119 := by kernel_rfl,c138 := by kernel_rfl }
theorem d_first : (Rows.laid_unicode_utf8_first : DataW Unit) = Lib.firstData := by kernel_rfl
theorem d_acc : (Rows.laid_unicode_utf8_acceptRanges : DataW Unit) = Lib.acceptData := by kernel_rfl
theorem d_as : (Rows.laid_strings_asciiSpace : DataW Unit) = Lib.tabData .u8 Lib.asciiSpaceTab := by kernel_rfl
theorem of_reads {W : World} {l : List (String × DataW Unit)} (h : laidMet Tryz.prog l W) (h1 : ("unicode/utf8.first",(Rows.laid_unicode_utf8_first : DataW Unit)) ∈ l) (h2 : ("unicode/utf8.acceptRanges",(Rows.laid_unicode_utf8_acceptRanges : DataW Unit)) ∈ l) (h3 : ("strings.asciiSpace",(Rows.laid_strings_asciiSpace : DataW Unit)) ∈ l) : TB W := by
 refine ⟨?_,utf8Tabs_of_readsT (.of196 Tryz.lays196) u8x (by rw [<- d_first]; exact Lib.laidMet.reads h h1) (by rw [<- d_acc]; exact Lib.laidMet.reads h h2)⟩
 obtain ⟨g,t,cs,fuel,p,hg,hty,hvar,hd⟩ := Lib.laidMet.reads h h3
 rw [d_as] at hd
 obtain rfl := Option.some.inj ((show Tryz.prog.globalNamed "strings.asciiSpace" = some 2 by kernel_rfl).symm.trans hg)
 obtain rfl := Option.some.inj ((show (Tryz.prog.globals[2]?).map (·.type) = some 165 by kernel_rfl).symm.trans hty)
 unfold Lib.TabIs
 rw [hvar,<- Lib.cells_of_tab (show Tryz.prog.underlying 165 = some (.array 256 5) by kernel_rfl) (show Tryz.prog.underlying 5 = some (.int .u8) by kernel_rfl) (by kernel_rfl) (by kernel_rfl) hd]
theorem undI64 : Tryz.prog.underlying 2 = some (.int .i64) := by kernel_rfl
theorem undInt : Tryz.prog.underlying 3 = some (.int .i64) := by kernel_rfl
theorem undStr : Tryz.prog.underlying 9 = some .string := by kernel_rfl
theorem undI64s : Tryz.prog.underlying 25 = some (.slice 2) := by kernel_rfl
theorem gr_arg {H : Type} {enc : TypeId × Value -> H} {W : World} {spare : Nat -> Bool} {held : Bool} {v : Value} {d : DataW H} {ps : List MemPlace} {rr : Reach} {b0 : Nat}
  (h0 : Value.okWide Tryz.prog W rr b0 31 v) (h : DataW.Trod enc Tryz.prog W 0 spare held 31 v d ps) : ∃ g : GT,v = .agg (Sig.cells LiA30 g).toArray := by
 obtain ⟨cs,rfl,hl,n,hn⟩ := rdC_arg_agg (by kernel_rfl) h0 h
 rw [show Tryz.prog.cellsOf 31 = 30 by kernel_rfl] at hl
 obtain ⟨c0,c1,c2,c3,c4,c5,c6,c7,c8,c9,c10,c11,c12,c13,c14,c15,c16,c17,c18,c19,c20,c21,c22,c23,c24,c25,c26,c27,c28,c29,rfl⟩ : ∃ c0 c1 c2 c3 c4 c5 c6 c7 c8 c9 c10 c11 c12 c13 c14 c15 c16 c17 c18 c19 c20 c21 c22 c23 c24 c25 c26 c27 c28 c29,cs = [c0,c1,c2,c3,c4,c5,c6,c7,c8,c9,c10,c11,c12,c13,c14,c15,c16,c17,c18,c19,c20,c21,c22,c23,c24,c25,c26,c27,c28,c29] := by
  match cs,hl with
  | [c0,c1,c2,c3,c4,c5,c6,c7,c8,c9,c10,c11,c12,c13,c14,c15,c16,c17,c18,c19,c20,c21,c22,c23,c24,c25,c26,c27,c28,c29],_=> exact ⟨c0,c1,c2,c3,c4,c5,c6,c7,c8,c9,c10,c11,c12,c13,c14,c15,c16,c17,c18,c19,c20,c21,c22,c23,c24,c25,c26,c27,c28,c29,rfl⟩
 obtain ⟨x0,rfl,_⟩ := leaf_int (k := 8) (i := 0) (u := 2) (by kernel_rfl) undI64 hn rfl
 obtain ⟨x1,rfl,_⟩ := leaf_int (k := 8) (i := 1) (u := 2) (by kernel_rfl) undI64 hn rfl
 obtain ⟨x2,rfl,_⟩ := leaf_int (k := 8) (i := 2) (u := 2) (by kernel_rfl) undI64 hn rfl
 obtain ⟨x3,rfl,_⟩ := leaf_int (k := 8) (i := 3) (u := 2) (by kernel_rfl) undI64 hn rfl
 obtain ⟨x4,rfl,_⟩ := leaf_int (k := 8) (i := 4) (u := 2) (by kernel_rfl) undI64 hn rfl
 obtain ⟨x5,rfl,_⟩ := leaf_int (k := 8) (i := 5) (u := 2) (by kernel_rfl) undI64 hn rfl
 obtain ⟨x6,rfl,_⟩ := leaf_int (k := 8) (i := 6) (u := 2) (by kernel_rfl) undI64 hn rfl
 obtain ⟨x7,rfl,_⟩ := leaf_int (k := 8) (i := 7) (u := 3) (by kernel_rfl) undInt hn rfl
 obtain ⟨x8,rfl,_⟩ := leaf_int (k := 8) (i := 8) (u := 3) (by kernel_rfl) undInt hn rfl
 obtain ⟨x9,rfl,_⟩ := leaf_int (k := 8) (i := 9) (u := 2) (by kernel_rfl) undI64 hn rfl
 obtain ⟨x10,rfl,_⟩ := leaf_slice (k := 8) (i := 10) (u := 25) (by kernel_rfl) undI64s hn rfl
 obtain ⟨x11,rfl,_⟩ := leaf_int (k := 8) (i := 11) (u := 2) (by kernel_rfl) undI64 hn rfl
 obtain ⟨x12,rfl,_⟩ := leaf_int (k := 8) (i := 12) (u := 3) (by kernel_rfl) undInt hn rfl
 obtain ⟨x13,rfl,_⟩ := leaf_int (k := 8) (i := 13) (u := 2) (by kernel_rfl) undI64 hn rfl
 obtain ⟨x14,rfl,_⟩ := leaf_int (k := 8) (i := 14) (u := 2) (by kernel_rfl) undI64 hn rfl
 obtain ⟨x15,rfl,_⟩ := leaf_int (k := 8) (i := 15) (u := 2) (by kernel_rfl) undI64 hn rfl
 obtain ⟨x16,rfl,_⟩ := leaf_int (k := 8) (i := 16) (u := 2) (by kernel_rfl) undI64 hn rfl
 obtain ⟨x17,rfl,_⟩ := leaf_int (k := 8) (i := 17) (u := 3) (by kernel_rfl) undInt hn rfl
 obtain ⟨x18,rfl,_⟩ := leaf_int (k := 8) (i := 18) (u := 2) (by kernel_rfl) undI64 hn rfl
 obtain ⟨x19,rfl,_⟩ := leaf_int (k := 8) (i := 19) (u := 2) (by kernel_rfl) undI64 hn rfl
 obtain ⟨x20,rfl,_⟩ := leaf_int (k := 8) (i := 20) (u := 2) (by kernel_rfl) undI64 hn rfl
 obtain ⟨x21,rfl,_⟩ := leaf_int (k := 8) (i := 21) (u := 2) (by kernel_rfl) undI64 hn rfl
 obtain ⟨x22,rfl,_⟩ := leaf_int (k := 8) (i := 22) (u := 2) (by kernel_rfl) undI64 hn rfl
 obtain ⟨x23,rfl,_⟩ := leaf_int (k := 8) (i := 23) (u := 2) (by kernel_rfl) undI64 hn rfl
 obtain ⟨x24,rfl,_⟩ := leaf_int (k := 8) (i := 24) (u := 2) (by kernel_rfl) undI64 hn rfl
 obtain ⟨x25,rfl,_⟩ := leaf_int (k := 8) (i := 25) (u := 2) (by kernel_rfl) undI64 hn rfl
 obtain ⟨x26,rfl,_⟩ := leaf_int (k := 8) (i := 26) (u := 2) (by kernel_rfl) undI64 hn rfl
 obtain ⟨x27,rfl,_⟩ := leaf_int (k := 8) (i := 27) (u := 2) (by kernel_rfl) undI64 hn rfl
 obtain ⟨x28,rfl,_⟩ := leaf_string (k := 8) (i := 28) (u := 9) (by kernel_rfl) undStr hn rfl
 obtain ⟨x29,rfl,_⟩ := leaf_int (k := 8) (i := 29) (u := 3) (by kernel_rfl) undInt hn rfl
 exact ⟨(x0,x1,x2,x3,x4,x5,x6,x7,x8,x9,x10,x11,x12,x13,x14,x15,x16,x17,x18,x19,x20,x21,x22,x23,x24,x25,x26,x27,x28,x29),rfl⟩
theorem fo_arg {H : Type} {enc : TypeId × Value -> H} {W : World} {spare : Nat -> Bool} {held : Bool} {v : Value} {d : DataW H} {ps : List MemPlace} {rr : Reach} {b0 : Nat}
  (h0 : Value.okWide Tryz.prog W rr b0 35 v) (h : DataW.Trod enc Tryz.prog W 0 spare held 35 v d ps) (hb : Rows.uptoBulk d <= 1048576) : ∃ (x : FT) (f : Font),v = .agg (Sig.cells LiA34 x).toArray /\ FoV W x f := by
 obtain ⟨cs,rfl,hl,_⟩ := rdC_arg_agg (by kernel_rfl) h0 h
 obtain ⟨n,hn⟩ := rdB_Trod (m := 8) (by kernel_rfl) h
 have hn : RdB Tryz.prog W n 35 cs (Rows.uptoBulk d) := hn
 rw [show Tryz.prog.cellsOf 35 = 7 by kernel_rfl] at hl
 obtain ⟨c0,c1,c2,c3,c4,c5,c6,rfl⟩ : ∃ c0 c1 c2 c3 c4 c5 c6,cs = [c0,c1,c2,c3,c4,c5,c6] := by
  match cs,hl with
  | [c0,c1,c2,c3,c4,c5,c6],_=> exact ⟨c0,c1,c2,c3,c4,c5,c6,rfl⟩
 obtain ⟨_,m,bs,hbs,hf⟩ := rdB_struct (L := [(0,9),(1,4),(2,3),(3,25),(4,2),(5,32),(6,33)]) (by kernel_rfl) hn
 have one : ∀ t : TypeId,Tryz.prog.cellsOf t = 1 -> ∀ (i o : Nat) (c : Value),[(0,9),(1,4),(2,3),(3,25),(4,2),(5,32),(6,33)][i]? = some (o,t) -> [c0,c1,c2,c3,c4,c5,c6][o]? = some c -> ∃ y,y <= bs.sum /\ RdB Tryz.prog W m t [c] y := fun t ht i o c hi ho=> by
  obtain ⟨y,hy,hr⟩ := hf i o t hi
  rw [ht,take_one ho] at hr
  exact ⟨y,sum_get_le hy,hr⟩
 obtain ⟨y0,z0,r0⟩ := one 9 (by kernel_rfl) 0 0 c0 rfl rfl
 obtain ⟨y1,z1,r1⟩ := one 4 (by kernel_rfl) 1 1 c1 rfl rfl
 obtain ⟨y2,z2,r2⟩ := one 3 (by kernel_rfl) 2 2 c2 rfl rfl
 obtain ⟨y3,z3,r3⟩ := one 25 (by kernel_rfl) 3 3 c3 rfl rfl
 obtain ⟨y4,z4,r4⟩ := one 2 (by kernel_rfl) 4 4 c4 rfl rfl
 obtain ⟨y5,z5,r5⟩ := one 32 (by kernel_rfl) 5 5 c5 rfl rfl
 obtain ⟨y6,z6,r6⟩ := one 33 (by kernel_rfl) 6 6 c6 rfl rfl
 obtain ⟨x0,e0,_,l0⟩ := rdB_string undStr r0
 obtain ⟨x1,e1⟩ := rdC_bool (by kernel_rfl) r1.up
 obtain ⟨x2,e2,f2⟩ := rdC_int undInt r2.up
 obtain ⟨x4,e4,f4⟩ := rdC_int undI64 r4.up
 obtain ⟨s3,L3,b3,e3,g3,k3,_,_,q3⟩ := rdB_elems (Q := fun (n : Int) cs x=> cs = icell n) undI64s (show Tryz.prog.cellsOf 2 = 1 by kernel_rfl) r3 fun m cs' x _ h=> by
  obtain ⟨n,hn,_⟩ := rdC_int undI64 h.up
  exact ⟨n,hn⟩
 obtain ⟨s5,L5,b5,e5,g5,k5,_,t5,q5⟩ := rdB_elems (Q := fun (n : ByteArray) cs x=> cs = scell n /\ n.size < x) (show Tryz.prog.underlying 32 = some (.slice 9) by kernel_rfl) (show Tryz.prog.cellsOf 9 = 1 by kernel_rfl) r5 fun m cs' x _ h=> by
  obtain ⟨n,hn,_,hs⟩ := rdB_string undStr h
  exact ⟨n,hn,hs⟩
 obtain ⟨s6,L6,b6,e6,g6,k6,_,t6,q6⟩ := rdB_elems (Q := fun (n : Int × ByteArray) cs x=> cs = mcells n /\ n.2.size < x) (show Tryz.prog.underlying 33 = some (.slice 145) by kernel_rfl) (show Tryz.prog.cellsOf 145 = 2 by kernel_rfl) r6 fun m cs' x hl h=> by
  obtain ⟨_,m2,bs2,hb2,hf2⟩ := rdB_struct (L := [(0,3),(1,9)]) (by kernel_rfl) h
  obtain ⟨d0,d1,rfl⟩ : ∃ d0 d1,cs' = [d0,d1] := by
   match cs',hl with
   | [d0,d1],_=> exact ⟨d0,d1,rfl⟩
  obtain ⟨u0,v0,w0⟩ := hf2 0 0 3 rfl
  obtain ⟨u1,v1,w1⟩ := hf2 1 1 9 rfl
  rw [show Tryz.prog.cellsOf 3 = 1 by kernel_rfl] at w0
  rw [show Tryz.prog.cellsOf 9 = 1 by kernel_rfl] at w1
  obtain ⟨n,hn,_⟩ := rdC_int undInt w0.up
  obtain ⟨t,ht,_,hs⟩ := rdB_string undStr w1
  obtain rfl : d0 = .int .i64 n := by simpa using hn
  obtain rfl : d1 = .string t := by simpa using ht
  have := sum_get_le v1
  exact ⟨(n,t),rfl,by show t.size < x; omega⟩
 obtain rfl : c0 = .string x0 := by simpa using e0
 obtain rfl : c1 = .bool x1 := by simpa using e1
 obtain rfl : c2 = .int .i64 x2 := by simpa using e2
 obtain rfl : c3 = Slc.v s3 := by simpa using e3
 obtain rfl : c4 = .int .i64 x4 := by simpa using e4
 obtain rfl : c5 = Slc.v s5 := by simpa using e5
 obtain rfl : c6 = Slc.v s6 := by simpa using e6
 refine ⟨(x0,x1,x2,s3,x4,s5,s6),⟨x0,x1,x2,L3,x4,L5,L6⟩,rfl,⟨rfl,rfl,rfl,rfl,?_,?_,?_,wf_i64 f2,by show x0.size <= _; omega,by show L3.length <= _; omega,by show L5.length <= _; omega,by show L6.length <= _; omega,?_,?_⟩⟩
 ·refine VRow.make icell_len (by decide) g3 fun i q hi=> ?_
  obtain ⟨a,cs',x,_,ha,_,hc,rfl⟩ := q3 i q hi
  exact ⟨a,ha,hc⟩
 ·refine VRow.make scell_len (by decide) g5 fun i q hi=> ?_
  obtain ⟨a,cs',x,_,ha,_,hc,rfl,_⟩ := q5 i q hi
  exact ⟨a,ha,hc⟩
 ·refine VRow.make mcells_len (by decide) g6 fun i q hi=> ?_
  obtain ⟨a,cs',x,_,ha,_,hc,rfl,_⟩ := q6 i q hi
  exact ⟨a,ha,hc⟩
 ·intro s hs
  obtain ⟨i,hi⟩ := List.mem_iff_getElem?.1 hs
  obtain ⟨a,cs',x,hx,_,_,_,_,hz⟩ := q5 i s hi
  have := sum_get_le hx
  omega
 ·intro s hs
  obtain ⟨i,hi⟩ := List.mem_iff_getElem?.1 hs
  obtain ⟨a,cs',x,hx,_,_,_,_,hz⟩ := q6 i s hi
  have := sum_get_le hx
  omega
end Sw
end Go.Proofs.YtcblpehnkogfdaaGreatDoor

/- The formulas of 3 functions of the program, written by program (gen.py); the kernel checks each. No condition. -/
namespace Go.Proofs.YtcblpehnkogfdaaGreatDoor
set_option maxRecDepth 100000
open Sh
set_option maxRecDepth 100000
def C4 (g1 : TyA30) (f2 : TyA34) (a3 : Int) (b4 : Int) (c5 : Int) (d6 : Int) (w : World) (R : Bool -> World -> Prop) : Prop :=
 Calls Tryz.prog 4 #[.agg (Sig.cells LiA30 g1).toArray,.agg (Sig.cells LiA34 f2).toArray,.int .i64 a3,.int .i64 b4,.int .i64 c5,.int .i64 d6] w fun e w'=> ∃ r0 : Bool,e = .returned (.bool r0) /\ R r0 w'
theorem C4.mono {g1 : TyA30} {f2 : TyA34} {a3 : Int} {b4 : Int} {c5 : Int} {d6 : Int} {w : World} {R R' : Bool -> World -> Prop} (h : C4 g1 f2 a3 b4 c5 d6 w R) (hr : ∀ r0 w',R r0 w' -> R' r0 w') : C4 g1 f2 a3 b4 c5 d6 w R' :=
 Calls.mono h fun _ _ ⟨r0,he,hR⟩=> ⟨r0,he,hr _ _ hR⟩
def C15 (a1 : Slc) (b2 : Slc) (w : World) (R : Bool -> World -> Prop) : Prop :=
 Calls Tryz.prog 15 #[Slc.v a1,Slc.v b2] w fun e w'=> ∃ r0 : Bool,e = .returned (.bool r0) /\ R r0 w'
theorem C15.mono {a1 : Slc} {b2 : Slc} {w : World} {R R' : Bool -> World -> Prop} (h : C15 a1 b2 w R) (hr : ∀ r0 w',R r0 w' -> R' r0 w') : C15 a1 b2 w R' :=
 Calls.mono h fun _ _ ⟨r0,he,hR⟩=> ⟨r0,he,hr _ _ hR⟩
def S4L1 (w : World) (a3 : Int) (b4 : Int) (c5 : Int) (d6 : Int) (z7 : World) (z12 : World) (R : Bool -> World -> Prop) (I24 : Int -> World -> Prop) (s22 : Int) (z23 : World) : Prop :=
 Br (decide (s22 < (((⟨some ⟨z12.heap.size,0,none⟩,5,5⟩ : Slc).len : Nat) : Int))) (0 <= s22 /\ s22 < ((⟨some ⟨z12.heap.size,0,none⟩,5,5⟩ : Slc).len : Nat) /\ Nn (⟨some ⟨z12.heap.size,0,none⟩,5,5⟩ : Slc).p fun a25=>
  Ld z23 (a25.add ((s22).toNat * 1)) (.int .i64) fun x26=>
  Br (decide (x26 < (-100000000))) (R true z23) (Br (decide (x26 > 100000000)) (R true z23) (I24 (IntKind.i64.wrap (s22 + 1)) z23))) (LdT z23 ⟨w.heap.size,0,none⟩ 0 LiA30 fun (x30 : TyA30)=>
  C18 x30 z23 fun r31 z32=>
   Br (r31 != 0) (R true z32) (C7 z32 fun r33 z34=>
     C7 z34 fun r35 z36=>
      C19 (⟨#[84,100]⟩ : ByteArray) a3 b4 z36 fun r37 z38=>
       Nw z38 (.cells #[.string (⟨#[]⟩ : ByteArray),Slc.v ((⟨none,0,0⟩ : Slc)),.string (⟨#[]⟩ : ByteArray)] 48) fun z39=>
       St z39 ⟨z38.heap.size,0,none⟩ (.string r37.1) fun z40=>
       St z40 (.add ⟨z38.heap.size,0,none⟩ 1) (Slc.v r37.2.1) fun z41=>
       St z41 (.add ⟨z38.heap.size,0,none⟩ 2) (.string r37.2.2) fun z42=>
       LdT z42 ⟨w.heap.size,0,none⟩ 0 LiA30 fun (x43 : TyA30)=>
       LdT z42 ⟨z7.heap.size,0,none⟩ 0 LiA34 fun (x44 : TyA34)=>
       C13 r33 ((⟨#[66,84]⟩ : ByteArray),(⟨none,0,0⟩ : Slc),(⟨#[]⟩ : ByteArray)) x43 x44 z42 fun r45 r46 z47=>
        LdT z47 ⟨w.heap.size,0,none⟩ 0 LiA30 fun (x48 : TyA30)=>
        LdT z47 ⟨z7.heap.size,0,none⟩ 0 LiA34 fun (x49 : TyA34)=>
        C13 r35 ((⟨#[66,84]⟩ : ByteArray),(⟨none,0,0⟩ : Slc),(⟨#[]⟩ : ByteArray)) x48 x49 z47 fun r50 r51 z52=>
         Ld z52 ⟨z38.heap.size,0,none⟩ .string fun x53=>
         Ld z52 (.add ⟨z38.heap.size,0,none⟩ 1) Slc.v fun x54=>
         Ld z52 (.add ⟨z38.heap.size,0,none⟩ 2) .string fun x55=>
         LdT z52 ⟨w.heap.size,0,none⟩ 0 LiA30 fun (x56 : TyA30)=>
         LdT z52 ⟨z7.heap.size,0,none⟩ 0 LiA34 fun (x57 : TyA34)=>
         C13 r33 (x53,x54,x55) x56 x57 z52 fun r58 r59 z60=>
          ∃ vS61 : World -> Prop,vS61 z60.drew /\ LdST vS61 ⟨w.heap.size,0,none⟩ 0 LiA30 fun (x62 : TyA30)=>
          LdST vS61 ⟨z7.heap.size,0,none⟩ 0 LiA34 fun (x63 : TyA34)=>
          C19 (⟨#[84,68]⟩ : ByteArray) c5 d6 z60.drew fun r64 z65=>
           vS61 z65 /\ C13 r33 (r64.1,r64.2.1,r64.2.2) x62 x63 z65 fun r66 r67 z68=>
            ∃ vS69 : World -> Prop,vS69 z68.drew /\ LdST vS69 ⟨w.heap.size,0,none⟩ 0 LiA30 fun (x70 : TyA30)=>
            LdST vS69 ⟨z7.heap.size,0,none⟩ 0 LiA34 fun (x71 : TyA34)=>
            C19 (⟨#[84,100]⟩ : ByteArray) (IntKind.i64.wrap (a3 + c5)) (IntKind.i64.wrap (b4 + d6)) z68.drew fun r72 z73=>
             vS69 z73 /\ C13 r35 (r72.1,r72.2.1,r72.2.2) x70 x71 z73 fun r74 r75 z76=>
              Br (r46 != 0) (R false z76) (Br (r51 != 0) (R false z76) (Br (r59 != 0) (R false z76) (Br (r67 != 0) (R false z76) (Br (r75 != 0) (R false z76) (C17 r33 z76 fun r87 z88=>
                    C17 r35 z88 fun r89 z90=>
                     Lt (!((r87.1 == r89.1) && ((r87.2.1 == r89.2.1) && ((r87.2.2.1 == r89.2.2.1) && ((r87.2.2.2.1 == r89.2.2.2.1) && ((r87.2.2.2.2.1 == r89.2.2.2.2.1) && ((r87.2.2.2.2.2 == r89.2.2.2.2.2) && true))))))) fun (x91 : Bool)=>
                     Br x91 (R false z90) (C17 r33 z90 fun r92 z93=>
                       C20 (IntKind.i64.wrap (a3 + c5)) (IntKind.i64.wrap (b4 + d6)) z93 fun r94 z95=>
                        Lt (!((r92.1 == r94.1) && ((r92.2.1 == r94.2.1) && ((r92.2.2.1 == r94.2.2.1) && ((r92.2.2.2.1 == r94.2.2.2.1) && ((r92.2.2.2.2.1 == r94.2.2.2.2.1) && ((r92.2.2.2.2.2 == r94.2.2.2.2.2) && true))))))) fun (x96 : Bool)=>
                        Br x96 (R false z95) (LdT z95 ⟨w.heap.size,0,none⟩ 0 LiA30 fun (x97 : TyA30)=>
                         LdT z95 ⟨z7.heap.size,0,none⟩ 0 LiA34 fun (x98 : TyA34)=>
                         C13 r33 ((⟨#[84,42]⟩ : ByteArray),(⟨none,0,0⟩ : Slc),(⟨#[]⟩ : ByteArray)) x97 x98 z95 fun r99 r100 z101=>
                          ∃ vS102 : World -> Prop,vS102 z101.drew /\ LdS vS102 (((⟨w.heap.size,0,none⟩ : Addr).add 22).add 3) (.int .i64) fun x103=>
                          LdST vS102 ⟨w.heap.size,0,none⟩ 0 LiA30 fun (x104 : TyA30)=>
                          LdST vS102 ⟨z7.heap.size,0,none⟩ 0 LiA34 fun (x105 : TyA34)=>
                          C19 (⟨#[84,100]⟩ : ByteArray) 0 (IntKind.i64.wrap (0 - x103)) z101.drew fun r106 z107=>
                           vS102 z107 /\ C13 r35 (r106.1,r106.2.1,r106.2.2) x104 x105 z107 fun r108 r109 z110=>
                            C17 r33 z110 fun r111 z112=>
                             Nw z112 (.cells #[.int .i64 0,.int .i64 0,.int .i64 0,.int .i64 0,.int .i64 0,.int .i64 0] 24) fun z113=>
                             St z113 ⟨z112.heap.size,0,none⟩ (.int .i64 (r111.1)) fun z114=>
                             St z114 (.add ⟨z112.heap.size,0,none⟩ 1) (.int .i64 (r111.2.1)) fun z115=>
                             St z115 (.add ⟨z112.heap.size,0,none⟩ 2) (.int .i64 (r111.2.2.1)) fun z116=>
                             St z116 (.add ⟨z112.heap.size,0,none⟩ 3) (.int .i64 (r111.2.2.2.1)) fun z117=>
                             St z117 (.add ⟨z112.heap.size,0,none⟩ 4) (.int .i64 (r111.2.2.2.2.1)) fun z118=>
                             St z118 (.add ⟨z112.heap.size,0,none⟩ 5) (.int .i64 (r111.2.2.2.2.2)) fun z119=>
                             LdT z119 ⟨w.heap.size,0,none⟩ 0 LiA30 fun (x120 : TyA30)=>
                             LdT z119 ⟨z7.heap.size,0,none⟩ 0 LiA34 fun (x121 : TyA34)=>
                             C13 r33 ((⟨#[66,84]⟩ : ByteArray),(⟨none,0,0⟩ : Slc),(⟨#[]⟩ : ByteArray)) x120 x121 z119 fun r122 r123 z124=>
                              LdT z124 ⟨w.heap.size,0,none⟩ 0 LiA30 fun (x125 : TyA30)=>
                              LdT z124 ⟨z7.heap.size,0,none⟩ 0 LiA34 fun (x126 : TyA34)=>
                              C13 r33 ((⟨#[84,100]⟩ : ByteArray),(⟨none,0,0⟩ : Slc),(⟨#[]⟩ : ByteArray)) x125 x126 z124 fun r127 r128 z129=>
                               ∃ vS149 : World -> Prop,vS149 z129.drew /\ Br (r100 != 0) (R false z129.drew) (Br (r109 != 0) (R false z129.drew) (LdS vS149 ⟨z112.heap.size,0,none⟩ (.int .i64) fun x150=>
                                 LdS vS149 (.add ⟨z112.heap.size,0,none⟩ 1) (.int .i64) fun x151=>
                                 LdS vS149 (.add ⟨z112.heap.size,0,none⟩ 2) (.int .i64) fun x152=>
                                 LdS vS149 (.add ⟨z112.heap.size,0,none⟩ 3) (.int .i64) fun x153=>
                                 LdS vS149 (.add ⟨z112.heap.size,0,none⟩ 4) (.int .i64) fun x154=>
                                 LdS vS149 (.add ⟨z112.heap.size,0,none⟩ 5) (.int .i64) fun x155=>
                                 C17 r35 z129.drew fun r156 z157=>
                                  vS149 z157 /\ Br (!((x150 == r156.1) && ((x151 == r156.2.1) && ((x152 == r156.2.2.1) && ((x153 == r156.2.2.2.1) && ((x154 == r156.2.2.2.2.1) && ((x155 == r156.2.2.2.2.2) && true))))))) (R false z157) (Br (r123 != 29) (R false z157) (Br (r128 != 28) (R false z157) (LdS vS149 ⟨z112.heap.size,0,none⟩ (.int .i64) fun x158=>
                                     LdS vS149 (.add ⟨z112.heap.size,0,none⟩ 1) (.int .i64) fun x159=>
                                     LdS vS149 (.add ⟨z112.heap.size,0,none⟩ 2) (.int .i64) fun x160=>
                                     LdS vS149 (.add ⟨z112.heap.size,0,none⟩ 3) (.int .i64) fun x161=>
                                     LdS vS149 (.add ⟨z112.heap.size,0,none⟩ 4) (.int .i64) fun x162=>
                                     LdS vS149 (.add ⟨z112.heap.size,0,none⟩ 5) (.int .i64) fun x163=>
                                     C17 r33 z157 fun r164 z165=>
                                      vS149 z165 /\ Br (!((r164.1 == x158) && ((r164.2.1 == x159) && ((r164.2.2.1 == x160) && ((r164.2.2.2.1 == x161) && ((r164.2.2.2.2.1 == x162) && ((r164.2.2.2.2.2 == x163) && true))))))) (R false z165) (C16 r33 z165 fun r166 z167=>
                                        Br (!r166) (R false z167) (∃ vS168 : World -> Prop,vS168 z167.drew /\ LdST vS168 ⟨w.heap.size,0,none⟩ 0 LiA30 fun (x169 : TyA30)=>
                                         LdST vS168 ⟨z7.heap.size,0,none⟩ 0 LiA34 fun (x170 : TyA34)=>
                                         C20 c5 d6 z167.drew fun r171 z172=>
                                          vS168 z172 /\ C21 (r171.1,r171.2.1,r171.2.2.1,r171.2.2.2.1,r171.2.2.2.2.1,r171.2.2.2.2.2) z172 fun r173 z174=>
                                           vS168 z174 /\ C13 r33 ((⟨#[84,109]⟩ : ByteArray),r173.2.2.2.2.2,(⟨#[]⟩ : ByteArray)) x169 x170 z174 fun r175 r176 z177=>
                                            C17 r33 z177 fun r178 z179=>
                                             Nw z179 (.cells #[.int .i64 0,.int .i64 0,.int .i64 0,.int .i64 0,.int .i64 0,.int .i64 0] 24) fun z180=>
                                             St z180 ⟨z179.heap.size,0,none⟩ (.int .i64 (r178.1)) fun z181=>
                                             St z181 (.add ⟨z179.heap.size,0,none⟩ 1) (.int .i64 (r178.2.1)) fun z182=>
                                             St z182 (.add ⟨z179.heap.size,0,none⟩ 2) (.int .i64 (r178.2.2.1)) fun z183=>
                                             St z183 (.add ⟨z179.heap.size,0,none⟩ 3) (.int .i64 (r178.2.2.2.1)) fun z184=>
                                             St z184 (.add ⟨z179.heap.size,0,none⟩ 4) (.int .i64 (r178.2.2.2.2.1)) fun z185=>
                                             St z185 (.add ⟨z179.heap.size,0,none⟩ 5) (.int .i64 (r178.2.2.2.2.2)) fun z186=>
                                             LdT z186 ⟨w.heap.size,0,none⟩ 0 LiA30 fun (x187 : TyA30)=>
                                             LdT z186 ⟨z7.heap.size,0,none⟩ 0 LiA34 fun (x188 : TyA34)=>
                                             C13 r33 ((⟨#[69,84]⟩ : ByteArray),(⟨none,0,0⟩ : Slc),(⟨#[]⟩ : ByteArray)) x187 x188 z186 fun r189 r190 z191=>
                                              Ld z191 ⟨z38.heap.size,0,none⟩ .string fun x192=>
                                              Ld z191 (.add ⟨z38.heap.size,0,none⟩ 1) Slc.v fun x193=>
                                              Ld z191 (.add ⟨z38.heap.size,0,none⟩ 2) .string fun x194=>
                                              LdT z191 ⟨w.heap.size,0,none⟩ 0 LiA30 fun (x195 : TyA30)=>
                                              LdT z191 ⟨z7.heap.size,0,none⟩ 0 LiA34 fun (x196 : TyA34)=>
                                              C13 r33 (x192,x193,x194) x195 x196 z191 fun r197 r198 z199=>
                                               ∃ vS200 : World -> Prop,vS200 z199.drew /\ Br (r176 == 0) (LdS vS200 ⟨z179.heap.size,0,none⟩ (.int .i64) fun x201=>
                                                LdS vS200 (.add ⟨z179.heap.size,0,none⟩ 1) (.int .i64) fun x202=>
                                                LdS vS200 (.add ⟨z179.heap.size,0,none⟩ 2) (.int .i64) fun x203=>
                                                LdS vS200 (.add ⟨z179.heap.size,0,none⟩ 3) (.int .i64) fun x204=>
                                                LdS vS200 (.add ⟨z179.heap.size,0,none⟩ 4) (.int .i64) fun x205=>
                                                LdS vS200 (.add ⟨z179.heap.size,0,none⟩ 5) (.int .i64) fun x206=>
                                                C20 c5 d6 z199.drew fun r207 z208=>
                                                 vS200 z208 /\ Br ((x201 == r207.1) && ((x202 == r207.2.1) && ((x203 == r207.2.2.1) && ((x204 == r207.2.2.2.1) && ((x205 == r207.2.2.2.2.1) && ((x206 == r207.2.2.2.2.2) && true)))))) (Br (r190 == 0) (C16 r33 z208 fun r209 z210=>
                                                    Br (!r209) (C17 r33 z210 fun r211 z212=>
                                                      C22 z212 fun r213 z214=>
                                                       Br ((r211.1 == r213.1) && ((r211.2.1 == r213.2.1) && ((r211.2.2.1 == r213.2.2.1) && ((r211.2.2.2.1 == r213.2.2.2.1) && ((r211.2.2.2.2.1 == r213.2.2.2.2.1) && ((r211.2.2.2.2.2 == r213.2.2.2.2.2) && true)))))) (R (r198 == 29) z214) (R false z214)) (R false z210)) (R false z208)) (R false z208)) (R false z199.drew)))))))))))))))))
def S4 (g1 : TyA30) (f2 : TyA34) (a3 : Int) (b4 : Int) (c5 : Int) (d6 : Int) (w : World) (R : Bool -> World -> Prop) : Prop :=
 Nw w (.cells (Sig.cells LiA30 g1).toArray 31) fun z7=>
 Nw z7 (.cells (Sig.cells LiA34 f2).toArray 35) fun z8=>
 C10 z8 fun r11 z12=>
  Br (!r11) (R false z12) (Ld z12 (((⟨w.heap.size,0,none⟩ : Addr).add 22).add 3) (.int .i64) fun x20=>
   Nw z12 (.cells #[.int .i64 a3,.int .i64 b4,.int .i64 c5,.int .i64 d6,.int .i64 x20] 2) fun z21=>
   Lp (σ := Int) (S4L1 w a3 b4 c5 d6 z7 z12 R) 0 z21)
def pl4 : Plan := (.q (.seq (.q (.cond (.q .leaf) .leaf)) (.seq (.q (.block (.loop [(55,(.one (.int .i64)))] [2,3,4,5,6,7,53,54] (.q (.seq (.cond .leaf .leaf) (.seq (.block (.q (.q (.cond (.q .leaf) .leaf)))) (.reg .seq))))))) (.seq (.q (.cond (.q .leaf) .leaf)) (.q (.q (.q (.q (.q (.seq (.reg (.held [6] (.take 0 (.take 1 (.take 2 (.take 4 (.take 5 (.eff 3 none (.eff 6 (some []) (.take 7 (.take 8 (.take 9 (.take 10 (.take 11 .done)))))))))))))) (.seq (.reg (.held [10] (.take 0 (.take 1 (.take 2 (.take 3 (.take 4 (.take 5 (.take 6 (.take 8 (.take 9 (.eff 7 none (.eff 10 (some []) (.take 11 (.take 12 (.take 13 (.take 14 (.take 15 .done)))))))))))))))))) (.seq (.q (.cond (.q .leaf) .leaf)) (.q (.seq (.reg (.held [8] (.take 0 (.take 1 (.take 2 (.take 3 (.take 4 (.take 6 (.take 7 (.eff 5 none (.eff 8 (some []) (.take 9 (.take 10 (.take 11 (.take 12 (.take 13 .done)))))))))))))))) (.q (.q (.q (.seq (.seq (.reg (.held [28] (.take 0 (.take 1 (.take 2 (.take 3 (.take 4 (.take 5 (.take 6 (.take 7 (.take 8 (.eff 9 none (.take 10 (.take 11 (.take 12 (.take 13 (.take 14 (.take 15 (.take 16 (.take 17 (.take 18 (.take 19 (.take 20 (.take 21 (.take 23 (.eff 22 none (.take 24 (.take 25 (.take 26 (.take 27 (.eff 28 (some []) (.take 29 (.take 30 .done))))))))))))))))))))))))))))))))) (.cond (.q .leaf) .leaf)) (.seq (.reg (.held [9] (.take 0 (.take 1 (.take 2 (.take 7 (.take 8 (.eff 3 none (.eff 4 none (.take 5 (.take 6 (.eff 9 (some []) (.take 10 (.take 11 (.take 12 (.take 13 (.take 14 .done))))))))))))))))) (.q (.q (.q (.seq (.reg (.held [15] (.take 0 (.take 1 (.take 2 (.take 3 (.take 4 (.take 5 (.eff 6 none (.take 7 (.take 8 (.take 9 (.take 10 (.take 11 (.take 12 (.take 13 (.take 14 (.eff 15 (some [20]) (.take 16 (.take 17 (.take 18 (.take 19 (.eff 20 (some [21]) (.eff 21 (some []) (.take 22 (.take 23 (.take 24 (.take 25 (.take 26 (.take 27 (.take 28 .done))))))))))))))))))))))))))))))) .leaf)))))))))))))))))))))))
theorem T4 (g1 : TyA30) (f2 : TyA34) (a3 : Int) (b4 : Int) (c5 : Int) (d6 : Int) (w : World) (R : Bool -> World -> Prop) (h : S4 g1 f2 a3 b4 c5 d6 w R) : C4 g1 f2 a3 b4 c5 d6 w R := by
 have e : fnT Tryz.prog ⟨FF,MAY,(fun _ _=> False)⟩ pl4 Tryz.f4 [.agg (Sig.cells LiA30 g1).toArray,.agg (Sig.cells LiA34 f2).toArray,.int .i64 a3,.int .i64 b4,.int .i64 c5,.int .i64 d6] w [(.one .bool)] (fun s w=> R s w) = S4 g1 f2 a3 b4 c5 d6 w R := by kernel_rfl
 exact (fn_calls okF okM Tryz.func4 (by kernel_rfl) (by kernel_rfl) (e.mpr h)).mono fun _ _ ⟨s,he,hR⟩=> ⟨s,he,hR⟩
def S15L1 (a1 : Slc) (b2 : Slc) (R : Bool -> World -> Prop) (I5 : Int -> World -> Prop) (s3 : Int) (z4 : World) : Prop :=
 Br (decide (s3 < ((a1.len : Nat) : Int))) (0 <= s3 /\ s3 < (a1.len : Nat) /\ Nn a1.p fun a6=>
  LdT z4.drew (a6.add ((s3).toNat * 9)) 0 LiA69 fun (x7 : TyA69)=>
  0 <= s3 /\ s3 < (b2.len : Nat) /\ Nn b2.p fun a8=>
  LdT z4.drew (a8.add ((s3).toNat * 9)) 0 LiA69 fun (x9 : TyA69)=>
  Lt (!((x7.1 == x9.1) && ((x7.2.1.toList == x9.2.1.toList) && (((x7.2.2.1 == x9.2.2.1) && ((x7.2.2.2.1 == x9.2.2.2.1) && true)) && (((x7.2.2.2.2.1 == x9.2.2.2.2.1) && ((x7.2.2.2.2.2.1 == x9.2.2.2.2.2.1) && true)) && ((x7.2.2.2.2.2.2.1 == x9.2.2.2.2.2.2.1) && ((x7.2.2.2.2.2.2.2.1.toList == x9.2.2.2.2.2.2.2.1.toList) && ((x7.2.2.2.2.2.2.2.2 == x9.2.2.2.2.2.2.2.2) && true)))))))) fun (x10 : Bool)=>
  Br x10 (R false z4.drew) (I5 (IntKind.i64.wrap (s3 + 1)) z4.drew)) (R true z4)
def S15 (a1 : Slc) (b2 : Slc) (w : World) (R : Bool -> World -> Prop) : Prop :=
 Br (((a1.len : Nat) : Int) != ((b2.len : Nat) : Int)) (R false w) (Lp (σ := Int) (S15L1 a1 b2 R) 0 w)
def pl15 : Plan := (.q (.seq (.q (.cond (.q .leaf) .leaf)) (.seq (.q (.block (.loop [(13,(.one (.int .i64)))] [0,1,12] (.q (.seq (.cond .leaf .leaf) (.seq (.block (.q (.seq (.reg .still) (.cond (.q .leaf) .leaf)))) (.reg .seq))))))) (.q .leaf))))
theorem T15 (a1 : Slc) (b2 : Slc) (w : World) (R : Bool -> World -> Prop) (h : S15 a1 b2 w R) : C15 a1 b2 w R := by
 have e : fnT Tryz.prog ⟨FF,MAY,(fun _ _=> False)⟩ pl15 Tryz.f15 [Slc.v a1,Slc.v b2] w [(.one .bool)] (fun s w=> R s w) = S15 a1 b2 w R := by kernel_rfl
 exact (fn_calls okF okM Tryz.func15 (by kernel_rfl) (by kernel_rfl) (e.mpr h)).mono fun _ _ ⟨s,he,hR⟩=> ⟨s,he,hR⟩
end Go.Proofs.YtcblpehnkogfdaaGreatDoor

/- Text machines: moves, plain. Conditions: none. -/
namespace Go.Proofs.YtcblpehnkogfdaaGreatDoor
namespace Ma
open Sh Mat Fix Fo Sw Opr Pat
set_option maxRecDepth 8000
set_option maxHeartbeats 4000000
section
variable {g : GT} {f : Font} {m : Mc} {K : List Ob}
end
end Ma
end Go.Proofs.YtcblpehnkogfdaaGreatDoor
namespace Go.Proofs.YtcblpehnkogfdaaGreatDoor
namespace Ma
open Sh Mat Fix Fo Sw Opr Pat
set_option maxRecDepth 8000
set_option maxHeartbeats 4000000
theorem string_most {g : GT} {m m' : Mx} {f : Font} {s : ByteArray} {L : List GlT} (h : stringF g m f s = (L,m',0)) : L.length <= 16384 := by
 obtain ⟨ha,hs⟩ := string_yes h
 have := showP_len _ hs
 have := (ask_parts ha).2.2.2.2
 omega
end Ma
end Go.Proofs.YtcblpehnkogfdaaGreatDoor
namespace Go.Proofs.YtcblpehnkogfdaaGreatDoor
namespace Ma
open Sh Mat Fix Fo Sw Opr Pat
set_option maxRecDepth 8000
set_option maxHeartbeats 4000000
theorem _root_.Go.Proofs.YtcblpehnkogfdaaGreatDoor.Sh.Hn.turn {w0 w w2 : World} {L : List (Nat × List Value × TypeId)} {b : Nat} {cs cs' : List Value} {t : TypeId} (h : Hn w0 w L) (i : Nat) (hi : L[i]? = some (b,cs,t)) (hb : Blk w2 b cs'.toArray t) (he : Ext (· = b) w w2) : Hn w0 w2 (L.set i (b,cs',t)) :=
 h.set i hi (h.h.upd i (arr_get hi) hb he (.inr (h.ge i hi)))
attribute [local irreducible] Ld Sh.St Nw Nn Lt LdS
section
variable {w0 w : World} {Ls : List (Nat × List Value × TypeId)} {mb : Nat} {m : Mc} {g : GT} {x : FT} {f : Font} {L K : List Ob} {o : OpT} {nm : Opr.By}
theorem r_may (g : GT) (w : World) : C18 g w fun r w1=> r = (if useG g = true then 0 else 2) /\ Ext (fun _=> False) w w1 := by
 refine T18 _ _ _ ?_
 unfold S18
 refine Nw.of ?_
 have H := gr_blk w g
 generalize w.alloc (.cells (Sig.cells LiA30 g).toArray 31) = wd at *
 refine H.ldT (i := 0) (pre := (Sig.cells LiA30 g).take 22) (post := []) (ts := LiA28) (x := tx g) rfl rfl ?_
 refine H.nw fun w16 H=> ?_
 refine H.stT (i := 1) (pre := []) (post := []) (zs := [.int .i64 0,.int .i64 0,.int .i64 0,.int .i64 0,.int .i64 0,.int .i64 0,.string ⟨#[]⟩,.int .i64 0]) rfl rfl rfl fun w17 H=> ?_
 refine H.ld 1 rfl (x := tchar g) rfl (H.ld 1 rfl (x := tword g) rfl (H.ld 1 rfl (x := tscale g) rfl (H.ld 1 rfl (x := tlead g) rfl (H.ld 1 rfl (x := tsize g) rfl (H.ld 1 rfl (x := trise g) rfl ?_)))))
 refine H.nw fun w18 H=> ?_
 have HI : IRow w18 ⟨some ⟨w17.heap.size,0,none⟩,6,6⟩ (texts g) := IRow.of (H.get 2 rfl) rfl fun i hi=> by
  have hi : i < 6 := hi
  rcases i with _ | _ | _ | _ | _ | _ | i
  all_goals first | rfl | omega
 refine ⟨fun n st w1=> ∃ k : Nat,st = (k : Int) /\ k <= 6 /\ n = 6 - k /\ w1 = w18 /\ ∀ i,i < k -> inW ((texts g).getD i 0) = true,6,⟨0,rfl,by omega,rfl,rfl,fun i hi=> by omega⟩,?_⟩
 rintro n st w1 ⟨k,rfl,hk,rfl,rfl,hall⟩
 unfold S18L1
 refine Br.dec (fun q=> ?_) fun q=> ?_
 ·have hk6 : k < 6 := by
   have q : (k : Int) < 6 := q
   omega
  obtain ⟨a,ha,hc⟩ := HI.2 k hk6
  have ha : (⟨w17.heap.size,0,none⟩ : Addr) = a := Option.some.inj ha
  subst ha
  have hno : inW ((texts g).getD k 0) = false -> useG g = false := fun hw=> by
   unfold useG
   cases ha : (texts g).all inW with
   | false=> rw [Bool.and_false]
   | true=>
    have := (all_iff _).1 ha k hk6
    rw [hw] at this
    cases this
  refine ⟨by omega,by show (k : Int) < 6; omega,Nn.of (Ld.mk (x := (texts g).getD k 0) (by rw [Int.toNat_natCast,Nat.mul_one]; exact hc) (Br.dec (fun h2=> ⟨by rw [hno (inW_no.2 (by omega))]; rfl,H.ext⟩) fun h2=> Br.dec (fun h3=> ⟨by rw [hno (inW_no.2 (by omega))]; rfl,H.ext⟩) fun h3=> ?_))⟩
  refine ⟨6 - (k + 1),by omega,k + 1,by rw [i64_id (by omega)]; rfl,by omega,rfl,rfl,fun i hi=> ?_⟩
  by_cases hik : i = k
  ·rw [hik]; exact inW_spec.2 (by omega)
  ·exact hall i (by omega)
 ·refine H.ld 0 rfl (x := (ctm g).1) rfl (H.ld 0 rfl (x := (ctm g).2.1) rfl (H.ld 0 rfl (x := (ctm g).2.2.1) rfl (H.ld 0 rfl (x := (ctm g).2.2.2.1) rfl (H.ld 0 rfl (x := (ctm g).2.2.2.2.1) rfl (H.ld 0 rfl (x := (ctm g).2.2.2.2.2) rfl ?_)))))
  refine (Mat.r_check (ctm g) _).mono ?_
  rintro r w2 ⟨rfl,e2⟩
  refine ⟨?_,H.ext.tr e2⟩
  have q : ¬ (k : Int) < 6 := q
  have hta : (texts g).all inW = true := (all_iff _).2 fun i hi=> hall i (by have hi : i < 6 := hi; omega)
  unfold useG
  rw [hta,Bool.and_true]
theorem gS {S : World -> Prop} {i b : Nat} (h : ∀ w',S w' -> Hn w0 w' Ls) (hi : Ls[i]? = some (b,grl g,TG)) {K : GT -> Prop} (k : K g) : LdST S (⟨b,0,none⟩ : Addr) 0 LiA30 K :=
 LdST.blk (ts := LiA30) (pre := []) (post := []) (t := TG) (x := g) (fun w' hw=> (h w' hw).get i hi) rfl k
theorem fS {S : World -> Prop} {i b : Nat} (h : ∀ w',S w' -> Hn w0 w' Ls) (hi : Ls[i]? = some (b,fol x,TF)) {K : FT -> Prop} (k : K x) : LdST S (⟨b,0,none⟩ : Addr) 0 LiA34 K :=
 LdST.blk (ts := LiA34) (pre := []) (post := []) (t := TF) (x := x) (fun w' hw=> (h w' hw).get i hi) rfl k
theorem gL (H : Hn w0 w Ls) {i b : Nat} (hi : Ls[i]? = some (b,grl g,TG)) {K : GT -> Prop} (k : K g) : LdT w (⟨b,0,none⟩ : Addr) 0 LiA30 K :=
 H.ldT (i := i) (ts := LiA30) (pre := []) (post := []) (x := g) hi rfl k
theorem fL (H : Hn w0 w Ls) {i b : Nat} (hi : Ls[i]? = some (b,fol x,TF)) {K : FT -> Prop} (k : K x) : LdT w (⟨b,0,none⟩ : Addr) 0 LiA34 K :=
 H.ldT (i := i) (ts := LiA34) (pre := []) (post := []) (x := x) hi rfl k
end
end Ma
end Go.Proofs.YtcblpehnkogfdaaGreatDoor
namespace Go.Proofs.YtcblpehnkogfdaaGreatDoor
namespace Ma
open Sh Mat Fix Fo Sw Opr Pat
set_option maxRecDepth 8000
set_option maxHeartbeats 4000000
attribute [local irreducible] Ld Sh.St Nw Nn Lt LdS
theorem reg {w0 w : World} {Ls : List (Nat × List Value × TypeId)} (H : Hn w0 w Ls) {P : (World -> Prop) -> Prop} (k : P (fun w'=> Hn w0 w' Ls)) : ∃ S,S w.drew /\ P S := ⟨_,H.drew,k⟩
abbrev TO : TypeId := 61
abbrev TP : TypeId := 48
section
variable {w vw7 w1 : World} {g : GT} {x : FT} {f : Font} {a b c d : Int}
end
end Ma
namespace Sw
open Sh Mat Fix Fo
open Go.ChangeShapes Go.WideShapes Go.ChangeAt Go.RowKit
open Go.ChangeMaps (open_string shut_string)
set_option maxRecDepth 100000
end Sw
end Go.Proofs.YtcblpehnkogfdaaGreatDoor
namespace Go.Proofs.YtcblpehnkogfdaaGreatDoor
namespace Ma
open Sh Mat Fix Fo Sw Opr Pat
set_option maxRecDepth 8000
set_option maxHeartbeats 4000000
attribute [local irreducible] Ld Sh.St Nw Nn Lt LdS
abbrev TL : TypeId := 70
theorem r_same {s t : Slc} {L : List GlT} {w : World} (hs : VRow w s 9 (L.flatMap glc)) (ht : VRow w t 9 (L.flatMap glc)) (hl : L.length <= 1000000) : C15 s t w fun r w1=> r = true /\ Ext (fun _=> False) w w1 := by
 have n1 := VRow.count glc_len (by decide) hs
 have n2 := VRow.count glc_len (by decide) ht
 refine T15 _ _ _ _ ?_
 unfold S15
 rw [n1,n2]
 refine Br.ne (fun q=> absurd rfl q) fun _=> ?_
 refine ⟨fun n st w1=> ∃ k : Nat,st = (k : Int) /\ k <= L.length /\ n = L.length - k /\ Ext (fun _=> False) w w1,L.length,⟨0,rfl,Nat.zero_le _,rfl,Ext.refl _ _⟩,?_⟩
 rintro n st w1 ⟨k,rfl,hk,rfl,e1⟩
 unfold S15L1
 rw [n1,n2]
 refine Br.dec (fun q=> ⟨by omega,by omega,?_⟩) fun q=> ⟨rfl,e1⟩
 have hkl : k < L.length := by omega
 have e2 := e1.drew
 obtain ⟨a,ha,hac⟩ := at_glyph (hs.keep e2) hkl
 obtain ⟨b,hb,hbc⟩ := at_glyph (ht.keep e2) hkl
 rw [ha,hb,Int.toNat_natCast]
 refine Nn.of (LdT.any LiA69 0 L[k] _ (fun j v hj=> by rw [Nat.zero_add]; exact hac j v hj) ⟨by omega,by omega,Nn.of (LdT.any LiA69 0 L[k] _ (fun j v hj=> by rw [Nat.zero_add]; exact hbc j v hj) (Lt.of (Sh.Br.f (by simp) ?_)))⟩)
 exact ⟨L.length - (k + 1),by omega,k + 1,by rw [i64_id (by omega)]; rfl,by omega,rfl,e2⟩
theorem reg' {w0 w : World} {Ls : List (Nat × List Value × TypeId)} (H : Hn w0 w Ls) {P : (World -> Prop) -> Prop} (k : P (fun w'=> Hn w0 w' Ls)) : ∃ S,S w /\ P S := ⟨_,H,k⟩
section
variable {w vw6 vw7 w1 : World} {g : GT} {x : FT} {f : Font} {m : Mx} {s t : ByteArray}
end
end Ma
namespace Sw
open Sh Mat Fix Fo
open Go.ChangeShapes Go.WideShapes Go.ChangeAt Go.RowKit
open Go.ChangeMaps (open_string shut_string)
set_option maxRecDepth 100000
end Sw
end Go.Proofs.YtcblpehnkogfdaaGreatDoor
