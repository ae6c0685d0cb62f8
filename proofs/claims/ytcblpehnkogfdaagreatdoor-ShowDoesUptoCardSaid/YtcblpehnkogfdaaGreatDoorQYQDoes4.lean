/- The formulas of 24 functions of the program, written by program (gen.py); the kernel checks each. No condition. -/
import Derived.Test.YtcblpehnkogfdaaGreatDoorQYQDoes2
import Derived.Test.YtcblpehnkogfdaaGreatDoorQYQDoes3
import Derived.Laws.MakeOwn
import Derived.OpenShut
import Derived.ChangeArms
import Derived.WideShapes
import Derived.Test.YtcblpehnkogfdaaGreatDoorRows
import Derived.Shelf.Small.Strs
import Derived.Shelf.Strings.Search1
import Derived.Shelf.Strings.Fields
import Derived.Test.YtcblpehnkogfdaaGreatDoorProg
import Derived.Shelf.Unicode.ValidAny
set_option linter.unusedVariables false
set_option linter.unusedSimpArgs false
namespace Go.Proofs.YtcblpehnkogfdaaGreatDoor
set_option maxRecDepth 100000
open Sh
set_option maxRecDepth 100000
def C124 (s1 : ByteArray) (c2 : Int) (w : World) (R : Int -> World -> Prop) : Prop :=
 Calls Tryz.prog 124 #[.string s1,.int .u8 c2] w fun e w'=> ∃ r0 : Int,e = .returned (.int .i64 r0) /\ R r0 w'
theorem C124.mono {s1 : ByteArray} {c2 : Int} {w : World} {R R' : Int -> World -> Prop} (h : C124 s1 c2 w R) (hr : ∀ r0 w',R r0 w' -> R' r0 w') : C124 s1 c2 w R' :=
 Calls.mono h fun _ _ ⟨r0,he,hR⟩=> ⟨r0,he,hr _ _ hR⟩
def C95 (s1 : ByteArray) (least2 : Int) (w : World) (R : Bool -> World -> Prop) : Prop :=
 Calls Tryz.prog 95 #[.string s1,.int .i64 least2] w fun e w'=> ∃ r0 : Bool,e = .returned (.bool r0) /\ R r0 w'
theorem C95.mono {s1 : ByteArray} {least2 : Int} {w : World} {R R' : Bool -> World -> Prop} (h : C95 s1 least2 w R) (hr : ∀ r0 w',R r0 w' -> R' r0 w') : C95 s1 least2 w R' :=
 Calls.mono h fun _ _ ⟨r0,he,hR⟩=> ⟨r0,he,hr _ _ hR⟩
def C96 (wide1 : Bool) (w : World) (R : Int -> World -> Prop) : Prop :=
 Calls Tryz.prog 96 #[.bool wide1] w fun e w'=> ∃ r0 : Int,e = .returned (.int .i64 r0) /\ R r0 w'
theorem C96.mono {wide1 : Bool} {w : World} {R R' : Int -> World -> Prop} (h : C96 wide1 w R) (hr : ∀ r0 w',R r0 w' -> R' r0 w') : C96 wide1 w R' :=
 Calls.mono h fun _ _ ⟨r0,he,hR⟩=> ⟨r0,he,hr _ _ hR⟩
def C97 (n1 : Int) (most2 : Int) (w : World) (R : Bool -> World -> Prop) : Prop :=
 Calls Tryz.prog 97 #[.int .i64 n1,.int .i64 most2] w fun e w'=> ∃ r0 : Bool,e = .returned (.bool r0) /\ R r0 w'
theorem C97.mono {n1 : Int} {most2 : Int} {w : World} {R R' : Bool -> World -> Prop} (h : C97 n1 most2 w R) (hr : ∀ r0 w',R r0 w' -> R' r0 w') : C97 n1 most2 w R' :=
 Calls.mono h fun _ _ ⟨r0,he,hR⟩=> ⟨r0,he,hr _ _ hR⟩
def C59 (f1 : TyA34) (w : World) (R : Bool -> World -> Prop) : Prop :=
 Calls Tryz.prog 59 #[.agg (Sig.cells LiA34 f1).toArray] w fun e w'=> ∃ r0 : Bool,e = .returned (.bool r0) /\ R r0 w'
theorem C59.mono {f1 : TyA34} {w : World} {R R' : Bool -> World -> Prop} (h : C59 f1 w R) (hr : ∀ r0 w',R r0 w' -> R' r0 w') : C59 f1 w R' :=
 Calls.mono h fun _ _ ⟨r0,he,hR⟩=> ⟨r0,he,hr _ _ hR⟩
def C98 (s1 : ByteArray) (w : World) (R : Bool -> World -> Prop) : Prop :=
 Calls Tryz.prog 98 #[.string s1] w fun e w'=> ∃ r0 : Bool,e = .returned (.bool r0) /\ R r0 w'
theorem C98.mono {s1 : ByteArray} {w : World} {R R' : Bool -> World -> Prop} (h : C98 s1 w R) (hr : ∀ r0 w',R r0 w' -> R' r0 w') : C98 s1 w R' :=
 Calls.mono h fun _ _ ⟨r0,he,hR⟩=> ⟨r0,he,hr _ _ hR⟩
def C99 (s1 : ByteArray) (w : World) (R : ByteArray -> World -> Prop) : Prop :=
 Calls Tryz.prog 99 #[.string s1] w fun e w'=> ∃ r0 : ByteArray,e = .returned (.string r0) /\ R r0 w'
theorem C99.mono {s1 : ByteArray} {w : World} {R R' : ByteArray -> World -> Prop} (h : C99 s1 w R) (hr : ∀ r0 w',R r0 w' -> R' r0 w') : C99 s1 w R' :=
 Calls.mono h fun _ _ ⟨r0,he,hR⟩=> ⟨r0,he,hr _ _ hR⟩
def C60 (l1 : Slc) (wide2 : Bool) (w : World) (R : Int -> World -> Prop) : Prop :=
 Calls Tryz.prog 60 #[Slc.v l1,.bool wide2] w fun e w'=> ∃ r0 : Int,e = .returned (.int .i64 r0) /\ R r0 w'
theorem C60.mono {l1 : Slc} {wide2 : Bool} {w : World} {R R' : Int -> World -> Prop} (h : C60 l1 wide2 w R) (hr : ∀ r0 w',R r0 w' -> R' r0 w') : C60 l1 wide2 w R' :=
 Calls.mono h fun _ _ ⟨r0,he,hR⟩=> ⟨r0,he,hr _ _ hR⟩
def C33 (f1 : TyA34) (w : World) (R : Int -> World -> Prop) : Prop :=
 Calls Tryz.prog 33 #[.agg (Sig.cells LiA34 f1).toArray] w fun e w'=> ∃ r0 : Int,e = .returned (.int .i64 r0) /\ R r0 w'
theorem C33.mono {f1 : TyA34} {w : World} {R R' : Int -> World -> Prop} (h : C33 f1 w R) (hr : ∀ r0 w',R r0 w' -> R' r0 w') : C33 f1 w R' :=
 Calls.mono h fun _ _ ⟨r0,he,hR⟩=> ⟨r0,he,hr _ _ hR⟩
def C65 (f1 : TyA34) (code2 : Int) (w : World) (R : Int -> World -> Prop) : Prop :=
 Calls Tryz.prog 65 #[.agg (Sig.cells LiA34 f1).toArray,.int .i64 code2] w fun e w'=> ∃ r0 : Int,e = .returned (.int .i64 r0) /\ R r0 w'
theorem C65.mono {f1 : TyA34} {code2 : Int} {w : World} {R R' : Int -> World -> Prop} (h : C65 f1 code2 w R) (hr : ∀ r0 w',R r0 w' -> R' r0 w') : C65 f1 code2 w R' :=
 Calls.mono h fun _ _ ⟨r0,he,hR⟩=> ⟨r0,he,hr _ _ hR⟩
def C91 (f1 : TyA34) (s2 : ByteArray) (w : World) (R : Slc -> Int -> World -> Prop) : Prop :=
 Calls Tryz.prog 91 #[.agg (Sig.cells LiA34 f1).toArray,.string s2] w fun e w'=> ∃ r0 : Slc,∃ r1 : Int,e = .returned (.tuple #[Slc.v r0,.int .i64 r1]) /\ R r0 r1 w'
theorem C91.mono {f1 : TyA34} {s2 : ByteArray} {w : World} {R R' : Slc -> Int -> World -> Prop} (h : C91 f1 s2 w R) (hr : ∀ r0 r1 w',R r0 r1 w' -> R' r0 r1 w') : C91 f1 s2 w R' :=
 Calls.mono h fun _ _ ⟨r0,r1,he,hR⟩=> ⟨r0,r1,he,hr _ _ _ hR⟩
def C152 (x1 : Int × ByteArray) (c2 : Addr) (w : World) (R : Bool -> World -> Prop) : Prop :=
 Calls Tryz.prog 152 #[.agg #[.int .i64 (x1.1),.string x1.2],.pointer (some c2)] w fun e w'=> ∃ r0 : Bool,e = .returned (.bool r0) /\ R r0 w'
theorem C152.mono {x1 : Int × ByteArray} {c2 : Addr} {w : World} {R R' : Bool -> World -> Prop} (h : C152 x1 c2 w R) (hr : ∀ r0 w',R r0 w' -> R' r0 w') : C152 x1 c2 w R' :=
 Calls.mono h fun _ _ ⟨r0,he,hR⟩=> ⟨r0,he,hr _ _ hR⟩
def C151 (s1 : Slc) (f2 : Value) (w : World) (R : Int -> World -> Prop) : Prop :=
 Calls Tryz.prog 151 #[Slc.v s1,f2] w fun e w'=> ∃ r0 : Int,e = .returned (.int .i64 r0) /\ R r0 w'
def C139 (l1 : Slc) (code2 : Int) (w : World) (R : ByteArray -> Bool -> World -> Prop) : Prop :=
 Calls Tryz.prog 139 #[Slc.v l1,.int .i64 code2] w fun e w'=> ∃ r0 : ByteArray,∃ r1 : Bool,e = .returned (.tuple #[.string r0,.bool r1]) /\ R r0 r1 w'
theorem C139.mono {l1 : Slc} {code2 : Int} {w : World} {R R' : ByteArray -> Bool -> World -> Prop} (h : C139 l1 code2 w R) (hr : ∀ r0 r1 w',R r0 r1 w' -> R' r0 r1 w') : C139 l1 code2 w R' :=
 Calls.mono h fun _ _ ⟨r0,r1,he,hR⟩=> ⟨r0,r1,he,hr _ _ _ hR⟩
def C113 (s1 : ByteArray) (w : World) (R : Slc -> World -> Prop) : Prop :=
 Calls Tryz.prog 113 #[.string s1] w fun e w'=> ∃ r0 : Slc,e = .returned (Slc.v r0) /\ R r0 w'
theorem C113.mono {s1 : ByteArray} {w : World} {R R' : Slc -> World -> Prop} (h : C113 s1 w R) (hr : ∀ r0 w',R r0 w' -> R' r0 w') : C113 s1 w R' :=
 Calls.mono h fun _ _ ⟨r0,he,hR⟩=> ⟨r0,he,hr _ _ hR⟩
def C153 (vat1 : Int) (names2 : ByteArray) (c3 : Addr) (w : World) (R : World -> Prop) : Prop :=
 Calls Tryz.prog 153 #[.int .i64 vat1,.string names2,.pointer (some c3)] w fun e w'=> e = .returned (.tuple #[]) /\ R w'
theorem C153.mono {vat1 : Int} {names2 : ByteArray} {c3 : Addr} {w : World} {R R' : World -> Prop} (h : C153 vat1 names2 c3 w R) (hr : ∀ w',R w' -> R' w') : C153 vat1 names2 c3 w R' :=
 Calls.mono h fun _ _ ⟨he,hR⟩=> ⟨he,hr _ hR⟩
def C140 (w : World) (R : Slc -> World -> Prop) : Prop :=
 Calls Tryz.prog 140 #[] w fun e w'=> ∃ r0 : Slc,e = .returned (Slc.v r0) /\ R r0 w'
theorem C140.mono {w : World} {R R' : Slc -> World -> Prop} (h : C140 w R) (hr : ∀ r0 w',R r0 w' -> R' r0 w') : C140 w R' :=
 Calls.mono h fun _ _ ⟨r0,he,hR⟩=> ⟨r0,he,hr _ _ hR⟩
def C162 (s1 : ByteArray) (vprefix2 : ByteArray) (w : World) (R : Bool -> World -> Prop) : Prop :=
 Calls Tryz.prog 162 #[.string s1,.string vprefix2] w fun e w'=> ∃ r0 : Bool,e = .returned (.bool r0) /\ R r0 w'
theorem C162.mono {s1 : ByteArray} {vprefix2 : ByteArray} {w : World} {R R' : Bool -> World -> Prop} (h : C162 s1 vprefix2 w R) (hr : ∀ r0 w',R r0 w' -> R' r0 w') : C162 s1 vprefix2 w R' :=
 Calls.mono h fun _ _ ⟨r0,he,hR⟩=> ⟨r0,he,hr _ _ hR⟩
def C161 (s1 : ByteArray) (vprefix2 : ByteArray) (w : World) (R : ByteArray -> Bool -> World -> Prop) : Prop :=
 Calls Tryz.prog 161 #[.string s1,.string vprefix2] w fun e w'=> ∃ r0 : ByteArray,∃ r1 : Bool,e = .returned (.tuple #[.string r0,.bool r1]) /\ R r0 r1 w'
def C159 (s1 : ByteArray) (vprefix2 : ByteArray) (w : World) (R : ByteArray -> Bool -> World -> Prop) : Prop :=
 Calls Tryz.prog 159 #[.string s1,.string vprefix2] w fun e w'=> ∃ r0 : ByteArray,∃ r1 : Bool,e = .returned (.tuple #[.string r0,.bool r1]) /\ R r0 r1 w'
theorem C159.mono {s1 : ByteArray} {vprefix2 : ByteArray} {w : World} {R R' : ByteArray -> Bool -> World -> Prop} (h : C159 s1 vprefix2 w R) (hr : ∀ r0 r1 w',R r0 r1 w' -> R' r0 r1 w') : C159 s1 vprefix2 w R' :=
 Calls.mono h fun _ _ ⟨r0,r1,he,hR⟩=> ⟨r0,r1,he,hr _ _ _ hR⟩
def C160 (c1 : Int) (w : World) (R : Int -> World -> Prop) : Prop :=
 Calls Tryz.prog 160 #[.int .u8 c1] w fun e w'=> ∃ r0 : Int,e = .returned (.int .i64 r0) /\ R r0 w'
theorem C160.mono {c1 : Int} {w : World} {R R' : Int -> World -> Prop} (h : C160 c1 w R) (hr : ∀ r0 w',R r0 w' -> R' r0 w') : C160 c1 w R' :=
 Calls.mono h fun _ _ ⟨r0,he,hR⟩=> ⟨r0,he,hr _ _ hR⟩
def C154 (name1 : ByteArray) (w : World) (R : ByteArray -> World -> Prop) : Prop :=
 Calls Tryz.prog 154 #[.string name1] w fun e w'=> ∃ r0 : ByteArray,e = .returned (.string r0) /\ R r0 w'
theorem C154.mono {name1 : ByteArray} {w : World} {R R' : ByteArray -> World -> Prop} (h : C154 name1 w R) (hr : ∀ r0 w',R r0 w' -> R' r0 w') : C154 name1 w R' :=
 Calls.mono h fun _ _ ⟨r0,he,hR⟩=> ⟨r0,he,hr _ _ hR⟩
def C141 (name1 : ByteArray) (w : World) (R : ByteArray -> World -> Prop) : Prop :=
 Calls Tryz.prog 141 #[.string name1] w fun e w'=> ∃ r0 : ByteArray,e = .returned (.string r0) /\ R r0 w'
theorem C141.mono {name1 : ByteArray} {w : World} {R R' : ByteArray -> World -> Prop} (h : C141 name1 w R) (hr : ∀ r0 w',R r0 w' -> R' r0 w') : C141 name1 w R' :=
 Calls.mono h fun _ _ ⟨r0,he,hR⟩=> ⟨r0,he,hr _ _ hR⟩
def C120 (f1 : TyA34) (code2 : Int) (w : World) (R : ByteArray -> World -> Prop) : Prop :=
 Calls Tryz.prog 120 #[.agg (Sig.cells LiA34 f1).toArray,.int .i64 code2] w fun e w'=> ∃ r0 : ByteArray,e = .returned (.string r0) /\ R r0 w'
theorem C120.mono {f1 : TyA34} {code2 : Int} {w : World} {R R' : ByteArray -> World -> Prop} (h : C120 f1 code2 w R) (hr : ∀ r0 w',R r0 w' -> R' r0 w') : C120 f1 code2 w R' :=
 Calls.mono h fun _ _ ⟨r0,he,hR⟩=> ⟨r0,he,hr _ _ hR⟩
def S95 (s1 : ByteArray) (least2 : Int) (w : World) (R : Bool -> World -> Prop) : Prop :=
 Br (decide ((((s1).size : Nat) : Int) >= least2)) (Br (decide ((((s1).size : Nat) : Int) <= 127)) (C124 s1 0 w fun r3 z4=>
    R (decide (r3 < 0)) z4) (R false w)) (R false w)
def pl95 : Plan := (.q (.q .leaf))
theorem T95 (s1 : ByteArray) (least2 : Int) (w : World) (R : Bool -> World -> Prop) (h : S95 s1 least2 w R) : C95 s1 least2 w R := by
 have e : fnT Tryz.prog ⟨FF,MAY,(fun _ _=> False)⟩ pl95 Tryz.f95 [.string s1,.int .i64 least2] w [(.one .bool)] (fun s w=> R s w) = S95 s1 least2 w R := by kernel_rfl
 exact (fn_calls okF okM Tryz.func95 (by kernel_rfl) (by kernel_rfl) (e.mpr h)).mono fun _ _ ⟨s,he,hR⟩=> ⟨s,he,hR⟩
def S96 (wide1 : Bool) (w : World) (R : Int -> World -> Prop) : Prop :=
 Br wide1 (R 65536 w) (R 256 w)
def pl96 : Plan := (.q (.seq (.q (.cond (.q .leaf) .leaf)) (.q .leaf)))
theorem T96 (wide1 : Bool) (w : World) (R : Int -> World -> Prop) (h : S96 wide1 w R) : C96 wide1 w R := by
 have e : fnT Tryz.prog ⟨FF,MAY,(fun _ _=> False)⟩ pl96 Tryz.f96 [.bool wide1] w [(.one (.int .i64))] (fun s w=> R s w) = S96 wide1 w R := by kernel_rfl
 exact (fn_calls okF okM Tryz.func96 (by kernel_rfl) (by kernel_rfl) (e.mpr h)).mono fun _ _ ⟨s,he,hR⟩=> ⟨s,he,hR⟩
def S97 (n1 : Int) (most2 : Int) (w : World) (R : Bool -> World -> Prop) : Prop :=
 Br (decide (n1 >= 0)) (R (decide (n1 <= most2)) w) (R false w)
def pl97 : Plan := (.q (.q .leaf))
theorem T97 (n1 : Int) (most2 : Int) (w : World) (R : Bool -> World -> Prop) (h : S97 n1 most2 w R) : C97 n1 most2 w R := by
 have e : fnT Tryz.prog ⟨FF,MAY,(fun _ _=> False)⟩ pl97 Tryz.f97 [.int .i64 n1,.int .i64 most2] w [(.one .bool)] (fun s w=> R s w) = S97 n1 most2 w R := by kernel_rfl
 exact (fn_calls okF okM Tryz.func97 (by kernel_rfl) (by kernel_rfl) (e.mpr h)).mono fun _ _ ⟨s,he,hR⟩=> ⟨s,he,hR⟩
def S59L1 (x51 : Slc) (R : Bool -> World -> Prop) (I54 : Int -> World -> Prop) (s52 : Int) (z53 : World) : Prop :=
 Br (decide (s52 < ((x51.len : Nat) : Int))) (0 <= s52 /\ s52 < (x51.len : Nat) /\ Nn x51.p fun a55=>
  Ld z53 (a55.add ((s52).toNat * 1)) .string fun x56=>
  C95 x56 0 z53 fun r57 z58=>
   Br (!r57) (R false z58) (I54 (IntKind.i64.wrap (s52 + 1)) z58)) (R true z53)
def S59J1 (w : World) (R : Bool -> World -> Prop) (s49 : Unit) (z50 : World) : Prop :=
 Ld z50 (.add ⟨w.heap.size,0,none⟩ 5) Slc.v fun x51=>
 Lp (σ := Int) (S59L1 x51 R) 0 z50
def S59L2 (w : World) (x38 : Slc) (R : Bool -> World -> Prop) (I41 : Int -> World -> Prop) (s39 : Int) (z40 : World) : Prop :=
 Br (decide (s39 < ((x38.len : Nat) : Int))) (0 <= s39 /\ s39 < (x38.len : Nat) /\ Nn x38.p fun a42=>
  Ld z40 (a42.add ((s39).toNat * 1)) (.int .i64) fun x43=>
  C97 x43 100000 z40 fun r44 z45=>
   Br (!r44) (R false z45) (I41 (IntKind.i64.wrap (s39 + 1)) z45)) (Join (S59J1 w R) fun (vJ59 : Unit -> World -> Prop)=>
   Ld z40 (.add ⟨w.heap.size,0,none⟩ 5) Slc.v fun x60=>
   Br (((x60.len : Nat) : Int) != 0) (Ld z40 (.add ⟨w.heap.size,0,none⟩ 1) Value.bool fun (x61 : Bool)=>
    Br x61 (R false z40) (Ld z40 (.add ⟨w.heap.size,0,none⟩ 5) Slc.v fun x62=>
     Br (((x62.len : Nat) : Int) != 256) (R false z40) (vJ59 () z40))) (vJ59 () z40))
def S59 (f1 : TyA34) (w : World) (R : Bool -> World -> Prop) : Prop :=
 Nw w (.cells (Sig.cells LiA34 f1).toArray 35) fun z2=>
 Ld z2 (.add ⟨w.heap.size,0,none⟩ 3) Slc.v fun x3=>
 ∃ vS17 : World -> Prop,vS17 z2.drew /\ LdS vS17 ⟨w.heap.size,0,none⟩ .string fun x18=>
 C95 x18 1 z2.drew fun r19 z20=>
  ∃ vS21 : World -> Prop,vS21 z20 /\ Br (!r19) (R false z20) (LdS vS21 (.add ⟨w.heap.size,0,none⟩ 2) (.int .i64) fun x22=>
   Br (decide (x22 < 0)) (R false z20) (Br (decide (((x3.len : Nat) : Int) > 4096)) (R false z20) (LdS vS21 (.add ⟨w.heap.size,0,none⟩ 2) (.int .i64) fun x23=>
     LdS vS21 (.add ⟨w.heap.size,0,none⟩ 1) Value.bool fun (x24 : Bool)=>
     C96 x24 z20 fun r25 z26=>
      vS21 z26 /\ Br (decide (x23 > (IntKind.i64.wrap (r25 - ((x3.len : Nat) : Int))))) (R false z26) (LdS vS21 (.add ⟨w.heap.size,0,none⟩ 4) (.int .i64) fun x27=>
       C97 x27 100000 z26 fun r28 z29=>
        Br (!r28) (R false z29) (Ld z29 (.add ⟨w.heap.size,0,none⟩ 3) Slc.v fun x38=>
         Lp (σ := Int) (S59L2 w x38 R) 0 z29)))))
def pl59 : Plan := (.q (.q (.seq (.seq (.reg (.held [2] (.take 0 (.take 1 (.eff 2 (some [26]) (.take 3 (.take 4 (.take 5 (.take 6 (.take 7 (.take 8 (.take 9 (.take 10 (.take 11 (.take 12 (.take 13 (.take 14 (.take 15 (.take 16 (.take 17 (.take 19 (.eff 18 none (.take 20 (.take 21 (.take 22 (.take 23 (.take 24 (.take 25 (.eff 26 (some []) (.take 27 (.take 28 .done))))))))))))))))))))))))))))))) (.cond (.q .leaf) .leaf)) (.seq (.q (.block (.loop [(43,(.one (.int .i64)))] [1,41,42] (.q (.seq (.cond .leaf .leaf) (.seq (.block (.q (.q (.cond (.q .leaf) .leaf)))) (.reg .seq))))))) (.join [] [1] (.q (.cond (.q .leaf) .leaf)) (.seq (.q (.block (.loop [(68,(.one (.int .i64)))] [66,67] (.q (.seq (.cond .leaf .leaf) (.seq (.block (.q (.q (.cond (.q .leaf) .leaf)))) (.reg .seq))))))) (.q .leaf)))))))
theorem T59 (f1 : TyA34) (w : World) (R : Bool -> World -> Prop) (h : S59 f1 w R) : C59 f1 w R := by
 have e : fnT Tryz.prog ⟨FF,MAY,(fun _ _=> False)⟩ pl59 Tryz.f59 [.agg (Sig.cells LiA34 f1).toArray] w [(.one .bool)] (fun s w=> R s w) = S59 f1 w R := by kernel_rfl
 exact (fn_calls okF okM Tryz.func59 (by kernel_rfl) (by kernel_rfl) (e.mpr h)).mono fun _ _ ⟨s,he,hR⟩=> ⟨s,he,hR⟩
def S99L1 (w : World) (R : ByteArray -> World -> Prop) (I5 : Slc -> World -> Prop) (s3 : Slc) (z4 : World) : Prop :=
 Nx z4 ⟨w.heap.size,0,none⟩ (fun (i6 : Int) (ch7 : Int) (z8 : World)=>
  Br (decide (ch7 >= 65536)) (Lt (Int.fdiv (IntKind.i32.wrap (55296 + (Int.fdiv (IntKind.i32.wrap (ch7 - 65536)) (2 ^ 10)))) (2 ^ 8)) fun (x14 : Int)=>
   Lt (IntKind.u8.wrap (IntKind.i32.wrap (55296 + (Int.fdiv (IntKind.i32.wrap (ch7 - 65536)) (2 ^ 10))))) fun (x15 : Int)=>
   Nw z8 (.cells #[.int .u8 (IntKind.u8.wrap x14),.int .u8 x15] 5) fun z16=>
   Rn Tryz.prog (Builtin.append_ #[169,169] 169 #[Slc.v s3,Slc.v ((⟨some ⟨z8.heap.size,0,none⟩,2,2⟩ : Slc))]) z16 Slc.v fun (x17 : Slc) z18=>
   Lt (Int.fdiv (IntKind.i32.wrap (56320 + (iand .i32 (IntKind.i32.wrap (ch7 - 65536)) 1023))) (2 ^ 8)) fun (x19 : Int)=>
   Lt (IntKind.u8.wrap (IntKind.i32.wrap (56320 + (iand .i32 (IntKind.i32.wrap (ch7 - 65536)) 1023)))) fun (x20 : Int)=>
   Nw z18 (.cells #[.int .u8 (IntKind.u8.wrap x19),.int .u8 x20] 5) fun z21=>
   Rn Tryz.prog (Builtin.append_ #[169,169] 169 #[Slc.v x17,Slc.v ((⟨some ⟨z18.heap.size,0,none⟩,2,2⟩ : Slc))]) z21 Slc.v fun (x22 : Slc) z23=>
   I5 x22 z23) (Nw z8 (.cells #[.int .u8 (IntKind.u8.wrap (Int.fdiv ch7 (2 ^ 8))),.int .u8 (IntKind.u8.wrap ch7)] 5) fun z24=>
   Rn Tryz.prog (Builtin.append_ #[169,169] 169 #[Slc.v s3,Slc.v ((⟨some ⟨z8.heap.size,0,none⟩,2,2⟩ : Slc))]) z24 Slc.v fun (x25 : Slc) z26=>
   I5 x25 z26)) (Rn Tryz.prog (convert 169 9 (Slc.v s3)) z4 Value.string fun (x27 : ByteArray) z28=>
  R x27 z28)
def S99 (s1 : ByteArray) (w : World) (R : ByteArray -> World -> Prop) : Prop :=
 Nw w (.stringIter s1 0) fun z2=>
 Lp (σ := Slc) (S99L1 w R) (⟨none,0,0⟩ : Slc) z2
def pl99 : Plan := (.q (.q (.seq (.q (.block (.loop [(3,(.one .slc))] [8] (.q (.seq (.cond .leaf .leaf) (.block (.q (.seq (.q (.cond (.q (.q (.reg .seq))) .leaf)) (.reg .seq))))))))) (.q .leaf))))
theorem T99 (s1 : ByteArray) (w : World) (R : ByteArray -> World -> Prop) (h : S99 s1 w R) : C99 s1 w R := by
 have e : fnT Tryz.prog ⟨FF,MAY,(fun _ _=> False)⟩ pl99 Tryz.f99 [.string s1] w [(.one .str)] (fun s w=> R s w) = S99 s1 w R := by kernel_rfl
 exact (fn_calls okF okM Tryz.func99 (by kernel_rfl) (by kernel_rfl) (e.mpr h)).mono fun _ _ ⟨s,he,hR⟩=> ⟨s,he,hR⟩
def S60L1 (l1 : Slc) (s3 : Int) (R : Int -> World -> Prop) (I7 : Int -> World -> Prop) (s5 : Int) (z6 : World) : Prop :=
 Br (decide (s5 < ((l1.len : Nat) : Int))) (0 <= s5 /\ s5 < (l1.len : Nat) /\ Nn l1.p fun a8=>
  Ld z6 (a8.add ((s5).toNat * 2)) (.int .i64) fun x9=>
  Ld z6 ((a8.add ((s5).toNat * 2)).add 1) .string fun x10=>
  Nw z6 (.cells #[.int .i64 0,.string (⟨#[]⟩ : ByteArray)] 145) fun z11=>
  St z11 ⟨z6.heap.size,0,none⟩ (.int .i64 x9) fun z12=>
  St z12 (.add ⟨z6.heap.size,0,none⟩ 1) (.string x10) fun z13=>
  Ld z13 ⟨z6.heap.size,0,none⟩ (.int .i64) fun x14=>
  Br (decide (x14 < 0)) (R 2 z13) (Ld z13 ⟨z6.heap.size,0,none⟩ (.int .i64) fun x15=>
   Br (decide (x15 > s3)) (R 2 z13) (Ld z13 (.add ⟨z6.heap.size,0,none⟩ 1) .string fun x16=>
    C98 x16 z13 fun r17 z18=>
     Br (!r17) (R 3 z18) (Ld z18 (.add ⟨z6.heap.size,0,none⟩ 1) .string fun x19=>
      C99 x19 z18 fun r20 z21=>
       Br (decide ((((r20).size : Nat) : Int) > 512)) (R 5 z21) (Br (decide (s5 > 0)) (Ld z21.drew ⟨z6.heap.size,0,none⟩ (.int .i64) fun x22=>
         0 <= (IntKind.i64.wrap (s5 - 1)) /\ (IntKind.i64.wrap (s5 - 1)) < (l1.len : Nat) /\ Nn l1.p fun a23=>
         Ld z21.drew (a23.add ((IntKind.i64.wrap (s5 - 1)).toNat * 2)) (.int .i64) fun x24=>
         Br (x22 == x24) (R 9 z21.drew) (Br (decide (s5 > 0)) (Ld z21.drew.drew ⟨z6.heap.size,0,none⟩ (.int .i64) fun x25=>
           0 <= (IntKind.i64.wrap (s5 - 1)) /\ (IntKind.i64.wrap (s5 - 1)) < (l1.len : Nat) /\ Nn l1.p fun a26=>
           Ld z21.drew.drew (a26.add ((IntKind.i64.wrap (s5 - 1)).toNat * 2)) (.int .i64) fun x27=>
           Br (decide (x25 < x27)) (R 1 z21.drew.drew) (I7 (IntKind.i64.wrap (s5 + 1)) z21.drew.drew)) (I7 (IntKind.i64.wrap (s5 + 1)) z21.drew.drew))) (Br (decide (s5 > 0)) (Ld z21.drew.drew ⟨z6.heap.size,0,none⟩ (.int .i64) fun x28=>
          0 <= (IntKind.i64.wrap (s5 - 1)) /\ (IntKind.i64.wrap (s5 - 1)) < (l1.len : Nat) /\ Nn l1.p fun a29=>
          Ld z21.drew.drew (a29.add ((IntKind.i64.wrap (s5 - 1)).toNat * 2)) (.int .i64) fun x30=>
          Br (decide (x28 < x30)) (R 1 z21.drew.drew) (I7 (IntKind.i64.wrap (s5 + 1)) z21.drew.drew)) (I7 (IntKind.i64.wrap (s5 + 1)) z21.drew.drew))))))) (R 0 z6)
def S60J1 (l1 : Slc) (R : Int -> World -> Prop) (s3 : Int) (z4 : World) : Prop :=
 Br (decide (((l1.len : Nat) : Int) > 4096)) (R 6 z4) (Lp (σ := Int) (S60L1 l1 s3 R) 0 z4)
def S60 (l1 : Slc) (wide2 : Bool) (w : World) (R : Int -> World -> Prop) : Prop :=
 Join (S60J1 l1 R) fun (vJ31 : Int -> World -> Prop)=>
  Br wide2 (vJ31 65535 w) (vJ31 255 w)
def pl60 : Plan := (.q (.q (.join [(5,(.one (.int .i64)))] [0] (.q (.cond (.reg .seq) .leaf)) (.seq (.q (.cond (.q .leaf) .leaf)) (.seq (.q (.block (.loop [(14,(.one (.int .i64)))] [0,5,12,13] (.q (.seq (.cond .leaf .leaf) (.seq (.block (.q (.block (.q (.cond (.q .leaf) (.q (.cond (.q .leaf) (.q (.cond (.q .leaf) (.seq (.reg .still) (.cond (.q .leaf) (.seq (.reg .still) (.cond (.q .leaf) .leaf))))))))))))) (.reg .seq))))))) (.q .leaf))))))
theorem T60 (l1 : Slc) (wide2 : Bool) (w : World) (R : Int -> World -> Prop) (h : S60 l1 wide2 w R) : C60 l1 wide2 w R := by
 have e : fnT Tryz.prog ⟨FF,MAY,(fun _ _=> False)⟩ pl60 Tryz.f60 [Slc.v l1,.bool wide2] w [(.one (.int .i64))] (fun s w=> R s w) = S60 l1 wide2 w R := by kernel_rfl
 exact (fn_calls okF okM Tryz.func60 (by kernel_rfl) (by kernel_rfl) (e.mpr h)).mono fun _ _ ⟨s,he,hR⟩=> ⟨s,he,hR⟩
def S33 (f1 : TyA34) (w : World) (R : Int -> World -> Prop) : Prop :=
 Nw w (.cells (Sig.cells LiA34 f1).toArray 35) fun z2=>
 LdT z2 ⟨w.heap.size,0,none⟩ 0 LiA34 fun (x6 : TyA34)=>
 C59 x6 z2 fun r7 z8=>
  Br (!r7) (R 1 z8) (Ld z8 (.add ⟨w.heap.size,0,none⟩ 6) Slc.v fun x9=>
   Ld z8 (.add ⟨w.heap.size,0,none⟩ 1) Value.bool fun (x10 : Bool)=>
   C60 x9 x10 z8 fun r11 z12=>
    R r11 z12)
def pl33 : Plan := (.q (.seq (.q (.cond (.q .leaf) .leaf)) (.q .leaf)))
theorem T33 (f1 : TyA34) (w : World) (R : Int -> World -> Prop) (h : S33 f1 w R) : C33 f1 w R := by
 have e : fnT Tryz.prog ⟨FF,MAY,(fun _ _=> False)⟩ pl33 Tryz.f33 [.agg (Sig.cells LiA34 f1).toArray] w [(.one (.int .i64))] (fun s w=> R s w) = S33 f1 w R := by kernel_rfl
 exact (fn_calls okF okM Tryz.func33 (by kernel_rfl) (by kernel_rfl) (e.mpr h)).mono fun _ _ ⟨s,he,hR⟩=> ⟨s,he,hR⟩
def S65 (f1 : TyA34) (code2 : Int) (w : World) (R : Int -> World -> Prop) : Prop :=
 Nw w (.cells (Sig.cells LiA34 f1).toArray 35) fun z3=>
 Ld z3 (.add ⟨w.heap.size,0,none⟩ 2) (.int .i64) fun x11=>
 Br (decide (code2 < x11)) (Ld z3 (.add ⟨w.heap.size,0,none⟩ 4) (.int .i64) fun x12=>
  R x12 z3) (Ld z3 (.add ⟨w.heap.size,0,none⟩ 2) (.int .i64) fun x13=>
  Ld z3 (.add ⟨w.heap.size,0,none⟩ 3) Slc.v fun x14=>
  Br (decide ((IntKind.i64.wrap (code2 - x13)) >= ((x14.len : Nat) : Int))) (Ld z3 (.add ⟨w.heap.size,0,none⟩ 4) (.int .i64) fun x15=>
   R x15 z3) (Ld z3 (.add ⟨w.heap.size,0,none⟩ 2) (.int .i64) fun x16=>
   Br (decide ((IntKind.i64.wrap (code2 - x16)) < 0)) (Ld z3 (.add ⟨w.heap.size,0,none⟩ 4) (.int .i64) fun x17=>
    R x17 z3) (Ld z3 (.add ⟨w.heap.size,0,none⟩ 3) Slc.v fun x18=>
    Ld z3 (.add ⟨w.heap.size,0,none⟩ 2) (.int .i64) fun x19=>
    0 <= (IntKind.i64.wrap (code2 - x19)) /\ (IntKind.i64.wrap (code2 - x19)) < (x18.len : Nat) /\ Nn x18.p fun a20=>
    Ld z3 (a20.add ((IntKind.i64.wrap (code2 - x19)).toNat * 1)) (.int .i64) fun x21=>
    R x21 z3)))
def pl65 : Plan := (.q (.seq (.q (.cond (.q .leaf) .leaf)) (.q .leaf)))
theorem T65 (f1 : TyA34) (code2 : Int) (w : World) (R : Int -> World -> Prop) (h : S65 f1 code2 w R) : C65 f1 code2 w R := by
 have e : fnT Tryz.prog ⟨FF,MAY,(fun _ _=> False)⟩ pl65 Tryz.f65 [.agg (Sig.cells LiA34 f1).toArray,.int .i64 code2] w [(.one (.int .i64))] (fun s w=> R s w) = S65 f1 code2 w R := by kernel_rfl
 exact (fn_calls okF okM Tryz.func65 (by kernel_rfl) (by kernel_rfl) (e.mpr h)).mono fun _ _ ⟨s,he,hR⟩=> ⟨s,he,hR⟩
def S91L1 (s2 : ByteArray) (R : Slc -> Int -> World -> Prop) (I14 : (Slc × Int) -> World -> Prop) (s12 : Slc × Int) (z13 : World) : Prop :=
 Br (decide (s12.2 < (((s2).size : Nat) : Int))) (0 <= s12.2 /\ s12.2 < ((s2).size : Nat) /\ Nw z13 (.cells #[.int .i64 (IntKind.i64.wrap (bAt s2 s12.2))] 3) fun z15=>
  Rn Tryz.prog (Builtin.append_ #[132,132] 132 #[Slc.v s12.1,Slc.v ((⟨some ⟨z13.heap.size,0,none⟩,1,1⟩ : Slc))]) z15 Slc.v fun (x16 : Slc) z17=>
  I14 (x16,IntKind.i64.wrap (s12.2 + 1)) z17) (R s12.1 0 z13)
def S91L2 (s2 : ByteArray) (R : Slc -> Int -> World -> Prop) (I20 : (Slc × Int) -> World -> Prop) (s18 : Slc × Int) (z19 : World) : Prop :=
 Br (decide (s18.2 < (((s2).size : Nat) : Int))) (0 <= s18.2 /\ s18.2 < ((s2).size : Nat) /\ 0 <= (IntKind.i64.wrap (s18.2 + 1)) /\ (IntKind.i64.wrap (s18.2 + 1)) < ((s2).size : Nat) /\ Nw z19.drew (.cells #[.int .i64 (ior .i64 (IntKind.i64.wrap ((IntKind.i64.wrap (bAt s2 s18.2)) * 2 ^ 8)) (IntKind.i64.wrap (bAt s2 (IntKind.i64.wrap (s18.2 + 1)))))] 3) fun z21=>
  Rn Tryz.prog (Builtin.append_ #[132,132] 132 #[Slc.v s18.1,Slc.v ((⟨some ⟨z19.drew.heap.size,0,none⟩,1,1⟩ : Slc))]) z21 Slc.v fun (x22 : Slc) z23=>
  I20 (x22,IntKind.i64.wrap (s18.2 + 2)) z23) (R s18.1 0 z19)
def S91 (f1 : TyA34) (s2 : ByteArray) (w : World) (R : Slc -> Int -> World -> Prop) : Prop :=
 Nw w (.cells (Sig.cells LiA34 f1).toArray 35) fun z3=>
 Ld z3 (.add ⟨w.heap.size,0,none⟩ 1) Value.bool fun (x11 : Bool)=>
 Br (!x11) (Lp (σ := Slc × Int) (S91L1 s2 R) ((⟨none,0,0⟩ : Slc),0) z3) (Br ((Int.tmod (((s2).size : Nat) : Int) 2) != 0) (R (⟨none,0,0⟩ : Slc) 3 z3) (Lp (σ := Slc × Int) (S91L2 s2 R) ((⟨none,0,0⟩ : Slc),0) z3))
def pl91 : Plan := (.q (.q (.seq (.q (.cond (.seq (.q (.block (.loop [(6,(.one .slc)),(14,(.one (.int .i64)))] [1,13] (.q (.seq (.cond .leaf .leaf) (.seq (.block (.q (.reg .seq))) (.reg .seq))))))) (.q .leaf)) .leaf)) (.seq (.q (.cond (.q .leaf) .leaf)) (.seq (.q (.block (.loop [(6,(.one .slc)),(8,(.one (.int .i64)))] [1] (.seq (.q (.cond .leaf .leaf)) (.seq (.block (.reg (.held [12] (.take 0 (.take 1 (.take 2 (.take 3 (.take 4 (.take 5 (.take 6 (.take 7 (.take 8 (.take 9 (.take 10 (.take 11 (.eff 12 (some [13]) (.eff 13 (some []) (.take 14 .done)))))))))))))))))) (.reg .seq)))))) (.q .leaf))))))
theorem T91 (f1 : TyA34) (s2 : ByteArray) (w : World) (R : Slc -> Int -> World -> Prop) (h : S91 f1 s2 w R) : C91 f1 s2 w R := by
 have e : fnT Tryz.prog ⟨FF,MAY,(fun _ _=> False)⟩ pl91 Tryz.f91 [.agg (Sig.cells LiA34 f1).toArray,.string s2] w [(.one .slc),(.one (.int .i64))] (fun s w=> R s.1 s.2 w) = S91 f1 s2 w R := by kernel_rfl
 exact (fn_calls okF okM Tryz.func91 (by kernel_rfl) (by kernel_rfl) (e.mpr h)).mono fun _ _ ⟨s,he,hR⟩=> ⟨s.1,s.2,he,hR⟩
def S152 (x1 : Int × ByteArray) (c2 : Addr) (w : World) (R : Bool -> World -> Prop) : Prop :=
 Nw w (.cells #[.int .i64 (x1.1),.string x1.2] 145) fun z3=>
 Ld z3 ⟨w.heap.size,0,none⟩ (.int .i64) fun x4=>
 Ld z3 c2 (.int .i64) fun x5=>
 R (x4 == x5) z3
def pl152 : Plan := (.q (.q .leaf))
theorem T152 (x1 : Int × ByteArray) (c2 : Addr) (w : World) (R : Bool -> World -> Prop) (h : S152 x1 c2 w R) : C152 (x1.1,x1.2) c2 w R := by
 have e : fnT Tryz.prog ⟨FF,MAY,(fun _ _=> False)⟩ pl152 Tryz.f152 [.agg #[.int .i64 (x1.1),.string x1.2],.pointer (some c2)] w [(.one .bool)] (fun s w=> R s w) = S152 x1 c2 w R := by kernel_rfl
 exact (fn_calls okF okM Tryz.func152 (by kernel_rfl) (by kernel_rfl) (e.mpr h)).mono fun _ _ ⟨s,he,hR⟩=> ⟨s,he,hR⟩
def S151_F152L1 (s1 : Slc) (c3 : Addr) (R : Int -> World -> Prop) (I6 : Int -> World -> Prop) (s4 : Int) (z5 : World) : Prop :=
 Br (decide (s4 < ((s1.len : Nat) : Int))) (0 <= s4 /\ s4 < (s1.len : Nat) /\ Nn s1.p fun a7=>
  Ld z5 (a7.add ((s4).toNat * 2)) (.int .i64) fun x8=>
  Ld z5 ((a7.add ((s4).toNat * 2)).add 1) .string fun x9=>
  C152 (x8,x9) c3 z5 fun r10 z11=>
   Br r10 (R s4 z11) (I6 (IntKind.i64.wrap (s4 + 1)) z11)) (R (-1) z5)
def S151_F152 (s1 : Slc) (c3 : Addr) (w : World) (R : Int -> World -> Prop) : Prop :=
 Lp (σ := Int) (S151_F152L1 s1 c3 R) 0 w
def pl151_F152 : Plan := (.q (.seq (.q (.block (.loop [(8,(.one (.int .i64)))] [0,1,7] (.q (.seq (.cond .leaf .leaf) (.seq (.block (.q (.q (.cond (.q .leaf) .leaf)))) (.reg .seq))))))) (.q .leaf)))
theorem T151_F152 (s1 : Slc) (c3 : Addr) (w : World) (R : Int -> World -> Prop) (h : S151_F152 s1 c3 w R) : C151 s1 (.func (.func 152) #[] #[.pointer (some c3)]) w R := by
 have e : fnT Tryz.prog ⟨FF,MAY,(fun _ _=> False)⟩ pl151_F152 Tryz.f151 [Slc.v s1,.func (.func 152) #[] #[.pointer (some c3)]] w [(.one (.int .i64))] (fun s w=> R s w) = S151_F152 s1 c3 w R := by kernel_rfl
 exact (fn_calls okF okM Tryz.func151 (by kernel_rfl) (by kernel_rfl) (e.mpr h)).mono fun _ _ ⟨s,he,hR⟩=> ⟨s,he,hR⟩
def S139 (l1 : Slc) (code2 : Int) (w : World) (R : ByteArray -> Bool -> World -> Prop) : Prop :=
 Nw w (.cells #[.int .i64 code2] 3) fun z3=>
 C151 l1 (.func (.func 152) #[] #[.pointer (some ⟨w.heap.size,0,none⟩)]) z3 fun r4 z5=>
  Br (decide (r4 < 0)) (R (⟨#[]⟩ : ByteArray) false z5) (0 <= r4 /\ r4 < (l1.len : Nat) /\ Nn l1.p fun a6=>
   Ld z5 ((a6.add ((r4).toNat * 2)).add 1) .string fun x7=>
   R x7 true z5)
def pl139 : Plan := (.q (.q (.seq (.q (.cond (.q .leaf) .leaf)) (.q .leaf))))
theorem T139 (l1 : Slc) (code2 : Int) (w : World) (R : ByteArray -> Bool -> World -> Prop) (h : S139 l1 code2 w R) : C139 l1 code2 w R := by
 have e : fnT Tryz.prog ⟨FF,MAY,(fun _ _=> False)⟩ pl139 Tryz.f139 [Slc.v l1,.int .i64 code2] w [(.one .str),(.one .bool)] (fun s w=> R s.1 s.2 w) = S139 l1 code2 w R := by kernel_rfl
 exact (fn_calls okF okM Tryz.func139 (by kernel_rfl) (by kernel_rfl) (e.mpr h)).mono fun _ _ ⟨s,he,hR⟩=> ⟨s.1,s.2,he,hR⟩
def S153L1 (vat1 : Int) (c3 : Addr) (r4 : Slc) (R : World -> Prop) (I8 : Int -> World -> Prop) (s6 : Int) (z7 : World) : Prop :=
 Br (decide (s6 < ((r4.len : Nat) : Int))) (0 <= s6 /\ s6 < (r4.len : Nat) /\ Nn r4.p fun a9=>
  Ld z7 (a9.add ((s6).toNat * 1)) .string fun x10=>
  Ld z7 c3 Slc.v fun x11=>
  0 <= (IntKind.i64.wrap (vat1 + s6)) /\ (IntKind.i64.wrap (vat1 + s6)) < (x11.len : Nat) /\ Nn x11.p fun a12=>
  St z7 (a12.add ((IntKind.i64.wrap (vat1 + s6)).toNat * 1)) (.string x10) fun z13=>
  I8 (IntKind.i64.wrap (s6 + 1)) z13) (R z7)
def S153 (vat1 : Int) (names2 : ByteArray) (c3 : Addr) (w : World) (R : World -> Prop) : Prop :=
 C113 names2 w fun r4 z5=>
  Lp (σ := Int) (S153L1 vat1 c3 r4 R) 0 z5
def pl153 : Plan := (.q (.block (.loop [(10,(.one (.int .i64)))] [0,2,8,9] (.q (.seq (.cond .leaf .leaf) (.seq (.block (.q (.reg .seq))) (.reg .seq)))))))
theorem T153 (vat1 : Int) (names2 : ByteArray) (c3 : Addr) (w : World) (R : World -> Prop) (h : S153 vat1 names2 c3 w R) : C153 vat1 names2 c3 w R := by
 have e : fnT Tryz.prog ⟨FF,MAY,(fun _ _=> False)⟩ pl153 Tryz.f153 [.int .i64 vat1,.string names2,.pointer (some c3)] w [] (fun _ w=> R w) = S153 vat1 names2 c3 w R := by kernel_rfl
 exact (fn_calls okF okM Tryz.func153 (by kernel_rfl) (by kernel_rfl) (e.mpr h)).mono fun _ _ ⟨_,he,hR⟩=> ⟨he,hR⟩
def S140L1 (z2 : World) (R : Slc -> World -> Prop) (I23 : Int -> World -> Prop) (s21 : Int) (z22 : World) : Prop :=
 Br (decide (s21 < 26)) (Ld z22 ⟨z2.heap.size,0,none⟩ Slc.v fun x24=>
  Nw z22 (.cells #[.int .u8 (IntKind.u8.wrap (IntKind.i64.wrap (65 + s21)))] 5) fun z25=>
  Rn Tryz.prog (convert 169 9 (Slc.v ((⟨some ⟨z22.heap.size,0,none⟩,1,1⟩ : Slc)))) z25 Value.string fun (x26 : ByteArray) z27=>
  0 <= (IntKind.i64.wrap (65 + s21)) /\ (IntKind.i64.wrap (65 + s21)) < (x24.len : Nat) /\ Nn x24.p fun a28=>
  St z27 (a28.add ((IntKind.i64.wrap (65 + s21)).toNat * 1)) (.string x26) fun z29=>
  Ld z29 ⟨z2.heap.size,0,none⟩ Slc.v fun x30=>
  Nw z29 (.cells #[.int .u8 (IntKind.u8.wrap (IntKind.i64.wrap (97 + s21)))] 5) fun z31=>
  Rn Tryz.prog (convert 169 9 (Slc.v ((⟨some ⟨z29.heap.size,0,none⟩,1,1⟩ : Slc)))) z31 Value.string fun (x32 : ByteArray) z33=>
  0 <= (IntKind.i64.wrap (97 + s21)) /\ (IntKind.i64.wrap (97 + s21)) < (x30.len : Nat) /\ Nn x30.p fun a34=>
  St z33 (a34.add ((IntKind.i64.wrap (97 + s21)).toNat * 1)) (.string x32) fun z35=>
  I23 (IntKind.i64.wrap (s21 + 1)) z35) (C153 91 (⟨#[98,114,97,99,107,101,116,108,101,102,116,32,98,97,99,107,115,108,97,115,104,32,98,114,97,99,107,101,116,114,105,103,104,116,32,97,115,99,105,105,99,105,114,99,117,109,32,117,110,100,101,114,115,99,111,114,101,32,103,114,97,118,101]⟩ : ByteArray) ⟨z2.heap.size,0,none⟩ z22 fun z36=>
   C153 123 (⟨#[98,114,97,99,101,108,101,102,116,32,98,97,114,32,98,114,97,99,101,114,105,103,104,116,32,97,115,99,105,105,116,105,108,100,101]⟩ : ByteArray) ⟨z2.heap.size,0,none⟩ z36 fun z37=>
    Ld z37 ⟨z2.heap.size,0,none⟩ Slc.v fun x38=>
    R x38 z37)
def S140 (w : World) (R : Slc -> World -> Prop) : Prop :=
 Rn Tryz.prog (Instr.makeSlice 32 (.int .i64 256) (.int .i64 256)) w Slc.v fun (x1 : Slc) z2=>
 Nw z2 (.cells #[Slc.v ((⟨none,0,0⟩ : Slc))] 32) fun z3=>
 St z3 ⟨z2.heap.size,0,none⟩ (Slc.v x1) fun z4=>
 C153 32 (⟨#[115,112,97,99,101,32,101,120,99,108,97,109,32,113,117,111,116,101,100,98,108,32,110,117,109,98,101,114,115,105,103,110,32,100,111,108,108,97,114,32,112,101,114,99,101,110,116,32,97,109,112,101,114,115,97,110,100,32,113,117,111,116,101,115,105,110,103,108,101,32,112,97,114,101,110,108,101,102,116,32,112,97,114,101,110,114,105,103,104,116,32,97,115,116,101,114,105,115,107,32,112,108,117,115,32,99,111,109,109,97,32,104,121,112,104,101,110,32,112,101,114,105,111,100,32,115,108,97,115,104,32,122,101,114,111,32,111,110,101,32,116,119,111,32,116,104,114,101,101,32,102,111,117,114,32,102,105,118,101,32,115,105,120,32,115,101,118,101,110,32,101,105,103,104,116,32,110,105,110,101,32,99,111,108,111,110,32,115,101,109,105,99,111,108,111,110,32,108,101,115,115,32,101,113,117,97,108,32,103,114,101,97,116,101,114,32,113,117,101,115,116,105,111,110,32,97,116]⟩ : ByteArray) ⟨z2.heap.size,0,none⟩ z4 fun z5=>
  Lp (σ := Int) (S140L1 z2 R) 0 z5
def pl140 : Plan := (.q (.q (.q (.q (.seq (.q (.block (.loop [(8,(.one (.int .i64)))] [1,2] (.q (.seq (.cond .leaf .leaf) (.seq (.block (.q (.q (.reg .seq)))) (.reg .seq))))))) (.q (.q (.q .leaf))))))))
theorem T140 (w : World) (R : Slc -> World -> Prop) (h : S140 w R) : C140 w R := by
 have e : fnT Tryz.prog ⟨FF,MAY,(fun _ _=> False)⟩ pl140 Tryz.f140 [] w [(.one .slc)] (fun s w=> R s w) = S140 w R := by kernel_rfl
 exact (fn_calls okF okM Tryz.func140 (by kernel_rfl) (by kernel_rfl) (e.mpr h)).mono fun _ _ ⟨s,he,hR⟩=> ⟨s,he,hR⟩
def S162 (s1 : ByteArray) (vprefix2 : ByteArray) (w : World) (R : Bool -> World -> Prop) : Prop :=
 Br (decide ((((s1).size : Nat) : Int) >= (((vprefix2).size : Nat) : Int))) (0 <= (((vprefix2).size : Nat) : Int) /\ (((vprefix2).size : Nat) : Int) <= (((s1).size : Nat) : Int) /\ R ((s1.extract 0 (((((vprefix2).size : Nat) : Int)).toNat)).toList == vprefix2.toList) w) (R false w)
def pl162 : Plan := (.q (.q .leaf))
theorem T162 (s1 : ByteArray) (vprefix2 : ByteArray) (w : World) (R : Bool -> World -> Prop) (h : S162 s1 vprefix2 w R) : C162 s1 vprefix2 w R := by
 have e : fnT Tryz.prog ⟨FF,MAY,(fun _ _=> False)⟩ pl162 Tryz.f162 [.string s1,.string vprefix2] w [(.one .bool)] (fun s w=> R s w) = S162 s1 vprefix2 w R := by kernel_rfl
 exact (fn_calls okF okM Tryz.func162 (by kernel_rfl) (by kernel_rfl) (e.mpr h)).mono fun _ _ ⟨s,he,hR⟩=> ⟨s,he,hR⟩
def S161 (s1 : ByteArray) (vprefix2 : ByteArray) (w : World) (R : ByteArray -> Bool -> World -> Prop) : Prop :=
 C162 s1 vprefix2 w fun r5 z6=>
  Br (!r5) (R s1 false z6) (0 <= (((vprefix2).size : Nat) : Int) /\ (((vprefix2).size : Nat) : Int) <= (((s1).size : Nat) : Int) /\ R (s1.extract (((((vprefix2).size : Nat) : Int)).toNat) ((s1).size)) true z6)
def pl161 : Plan := (.q (.seq (.q (.cond (.q .leaf) .leaf)) (.q .leaf)))
theorem T161 (s1 : ByteArray) (vprefix2 : ByteArray) (w : World) (R : ByteArray -> Bool -> World -> Prop) (h : S161 s1 vprefix2 w R) : C161 s1 vprefix2 w R := by
 have e : fnT Tryz.prog ⟨FF,MAY,(fun _ _=> False)⟩ pl161 Tryz.f161 [.string s1,.string vprefix2] w [(.one .str),(.one .bool)] (fun s w=> R s.1 s.2 w) = S161 s1 vprefix2 w R := by kernel_rfl
 exact (fn_calls okF okM Tryz.func161 (by kernel_rfl) (by kernel_rfl) (e.mpr h)).mono fun _ _ ⟨s,he,hR⟩=> ⟨s.1,s.2,he,hR⟩
def S159 (s1 : ByteArray) (vprefix2 : ByteArray) (w : World) (R : ByteArray -> Bool -> World -> Prop) : Prop :=
 C161 s1 vprefix2 w fun r3 r4 z5=>
  R r3 r4 z5
def pl159 : Plan := (.q (.q .leaf))
theorem T159 (s1 : ByteArray) (vprefix2 : ByteArray) (w : World) (R : ByteArray -> Bool -> World -> Prop) (h : S159 s1 vprefix2 w R) : C159 s1 vprefix2 w R := by
 have e : fnT Tryz.prog ⟨FF,MAY,(fun _ _=> False)⟩ pl159 Tryz.f159 [.string s1,.string vprefix2] w [(.one .str),(.one .bool)] (fun s w=> R s.1 s.2 w) = S159 s1 vprefix2 w R := by kernel_rfl
 exact (fn_calls okF okM Tryz.func159 (by kernel_rfl) (by kernel_rfl) (e.mpr h)).mono fun _ _ ⟨s,he,hR⟩=> ⟨s.1,s.2,he,hR⟩
def S160 (c1 : Int) (w : World) (R : Int -> World -> Prop) : Prop :=
 Br (decide (c1 >= 48)) (Br (decide (c1 <= 57)) (R (IntKind.i64.wrap (IntKind.u8.wrap (c1 - 48))) w) (Br (decide (c1 >= 65)) (Br (decide (c1 <= 70)) (R (IntKind.i64.wrap ((IntKind.i64.wrap (IntKind.u8.wrap (c1 - 65))) + 10)) w) (Br (decide (c1 >= 97)) (Br (decide (c1 <= 102)) (R (IntKind.i64.wrap ((IntKind.i64.wrap (IntKind.u8.wrap (c1 - 97))) + 10)) w) (R (-1) w)) (R (-1) w))) (Br (decide (c1 >= 97)) (Br (decide (c1 <= 102)) (R (IntKind.i64.wrap ((IntKind.i64.wrap (IntKind.u8.wrap (c1 - 97))) + 10)) w) (R (-1) w)) (R (-1) w)))) (Br (decide (c1 >= 65)) (Br (decide (c1 <= 70)) (R (IntKind.i64.wrap ((IntKind.i64.wrap (IntKind.u8.wrap (c1 - 65))) + 10)) w) (Br (decide (c1 >= 97)) (Br (decide (c1 <= 102)) (R (IntKind.i64.wrap ((IntKind.i64.wrap (IntKind.u8.wrap (c1 - 97))) + 10)) w) (R (-1) w)) (R (-1) w))) (Br (decide (c1 >= 97)) (Br (decide (c1 <= 102)) (R (IntKind.i64.wrap ((IntKind.i64.wrap (IntKind.u8.wrap (c1 - 97))) + 10)) w) (R (-1) w)) (R (-1) w)))
def pl160 : Plan := (.q (.seq (.block (.q (.cond (.q .leaf) (.q (.cond (.q .leaf) (.q (.cond (.q .leaf) .leaf))))))) (.q .leaf)))
theorem T160 (c1 : Int) (w : World) (R : Int -> World -> Prop) (h : S160 c1 w R) : C160 c1 w R := by
 have e : fnT Tryz.prog ⟨FF,MAY,(fun _ _=> False)⟩ pl160 Tryz.f160 [.int .u8 c1] w [(.one (.int .i64))] (fun s w=> R s w) = S160 c1 w R := by kernel_rfl
 exact (fn_calls okF okM Tryz.func160 (by kernel_rfl) (by kernel_rfl) (e.mpr h)).mono fun _ _ ⟨s,he,hR⟩=> ⟨s,he,hR⟩
def S154L1 (r2 : ByteArray) (R : ByteArray -> World -> Prop) (I12 : (Int × Int) -> World -> Prop) (s10 : Int × Int) (z11 : World) : Prop :=
 Br (decide (s10.2 < 4)) (0 <= s10.2 /\ s10.2 < ((r2).size : Nat) /\ C160 (bAt r2 s10.2) z11 fun r13 z14=>
   Br (decide (r13 < 0)) (R (⟨#[]⟩ : ByteArray) z14) (0 <= s10.2 /\ s10.2 < ((r2).size : Nat) /\ Br (decide ((bAt r2 s10.2) >= 97)) (R (⟨#[]⟩ : ByteArray) z14) (I12 (ior .i64 (IntKind.i64.wrap (s10.1 * 2 ^ 4)) r13,IntKind.i64.wrap (s10.2 + 1)) z14))) (Br (s10.1 == 0) (R (⟨#[]⟩ : ByteArray) z11) (Br (decide (s10.1 >= 55296)) (Br (decide (s10.1 <= 57343)) (R (⟨#[]⟩ : ByteArray) z11) (Nw z11 (.cells #[.int .i32 (IntKind.i32.wrap s10.1)] 21) fun z15=>
     Rn Tryz.prog (convert 182 9 (Slc.v ((⟨some ⟨z11.heap.size,0,none⟩,1,1⟩ : Slc)))) z15 Value.string fun (x16 : ByteArray) z17=>
     R x16 z17)) (Nw z11 (.cells #[.int .i32 (IntKind.i32.wrap s10.1)] 21) fun z18=>
    Rn Tryz.prog (convert 182 9 (Slc.v ((⟨some ⟨z11.heap.size,0,none⟩,1,1⟩ : Slc)))) z18 Value.string fun (x19 : ByteArray) z20=>
    R x19 z20)))
def S154 (name1 : ByteArray) (w : World) (R : ByteArray -> World -> Prop) : Prop :=
 C159 name1 (⟨#[117,110,105]⟩ : ByteArray) w fun r2 r3 z4=>
  Br (!r3) (R (⟨#[]⟩ : ByteArray) z4) (Br ((((r2).size : Nat) : Int) != 4) (R (⟨#[]⟩ : ByteArray) z4) (Lp (σ := Int × Int) (S154L1 r2 R) (0,0) z4))
def pl154 : Plan := (.q (.q (.seq (.q (.cond (.q .leaf) .leaf)) (.q (.seq (.q (.block (.loop [(5,(.one (.int .i64))),(20,(.one (.int .i64)))] [3] (.q (.seq (.cond .leaf .leaf) (.seq (.block (.q (.q (.seq (.q (.cond (.q .leaf) .leaf)) (.reg .seq))))) (.reg .seq))))))) (.seq (.q (.cond (.q .leaf) .leaf)) (.q .leaf)))))))
theorem T154 (name1 : ByteArray) (w : World) (R : ByteArray -> World -> Prop) (h : S154 name1 w R) : C154 name1 w R := by
 have e : fnT Tryz.prog ⟨FF,MAY,(fun _ _=> False)⟩ pl154 Tryz.f154 [.string name1] w [(.one .str)] (fun s w=> R s w) = S154 name1 w R := by kernel_rfl
 exact (fn_calls okF okM Tryz.func154 (by kernel_rfl) (by kernel_rfl) (e.mpr h)).mono fun _ _ ⟨s,he,hR⟩=> ⟨s,he,hR⟩
def S141L1 (name1 : ByteArray) (r2 : Slc) (R : ByteArray -> World -> Prop) (I6 : Int -> World -> Prop) (s4 : Int) (z5 : World) : Prop :=
 Br (decide (s4 < ((r2.len : Nat) : Int))) (0 <= s4 /\ s4 < (r2.len : Nat) /\ Nn r2.p fun a7=>
  Ld z5 (a7.add ((s4).toNat * 1)) .string fun x8=>
  Br (x8.toList == name1.toList) (Nw z5 (.cells #[.int .u8 (IntKind.u8.wrap s4)] 5) fun z9=>
   Rn Tryz.prog (convert 169 9 (Slc.v ((⟨some ⟨z5.heap.size,0,none⟩,1,1⟩ : Slc)))) z9 Value.string fun (x10 : ByteArray) z11=>
   R x10 z11) (I6 (IntKind.i64.wrap (s4 + 1)) z5)) (C154 name1 z5 fun r12 z13=>
   R r12 z13)
def S141 (name1 : ByteArray) (w : World) (R : ByteArray -> World -> Prop) : Prop :=
 Br (name1.toList == (⟨#[]⟩ : ByteArray).toList) (R (⟨#[]⟩ : ByteArray) w) (C140 w fun r2 z3=>
   Lp (σ := Int) (S141L1 name1 r2 R) 0 z3)
def pl141 : Plan := (.q (.seq (.q (.cond (.q .leaf) .leaf)) (.seq (.q (.block (.loop [(9,(.one (.int .i64)))] [0,7,8] (.q (.seq (.cond .leaf .leaf) (.seq (.block (.q (.q (.cond (.q .leaf) .leaf)))) (.reg .seq))))))) (.q .leaf))))
theorem T141 (name1 : ByteArray) (w : World) (R : ByteArray -> World -> Prop) (h : S141 name1 w R) : C141 name1 w R := by
 have e : fnT Tryz.prog ⟨FF,MAY,(fun _ _=> False)⟩ pl141 Tryz.f141 [.string name1] w [(.one .str)] (fun s w=> R s w) = S141 name1 w R := by kernel_rfl
 exact (fn_calls okF okM Tryz.func141 (by kernel_rfl) (by kernel_rfl) (e.mpr h)).mono fun _ _ ⟨s,he,hR⟩=> ⟨s,he,hR⟩
def S120 (f1 : TyA34) (code2 : Int) (w : World) (R : ByteArray -> World -> Prop) : Prop :=
 Nw w (.cells (Sig.cells LiA34 f1).toArray 35) fun z3=>
 Ld z3 (.add ⟨w.heap.size,0,none⟩ 6) Slc.v fun x8=>
 C139 x8 code2 z3 fun r9 r10 z11=>
  Br r10 (R r9 z11) (Ld z11 (.add ⟨w.heap.size,0,none⟩ 5) Slc.v fun x12=>
   Br (((x12.len : Nat) : Int) == 0) (C140 z11 fun r15 z16=>
     Ld z16 (.add ⟨w.heap.size,0,none⟩ 1) Value.bool fun (x18 : Bool)=>
     Br x18 (R (⟨#[]⟩ : ByteArray) z16) (Br (decide (code2 < 0)) (R (⟨#[]⟩ : ByteArray) z16) (Br (decide (code2 >= ((r15.len : Nat) : Int))) (R (⟨#[]⟩ : ByteArray) z16) (0 <= code2 /\ code2 < (r15.len : Nat) /\ Nn r15.p fun a19=>
        Ld z16 (a19.add ((code2).toNat * 1)) .string fun x20=>
        C141 x20 z16 fun r21 z22=>
         R r21 z22)))) (Ld z11 (.add ⟨w.heap.size,0,none⟩ 1) Value.bool fun (x23 : Bool)=>
    Br x23 (R (⟨#[]⟩ : ByteArray) z11) (Br (decide (code2 < 0)) (R (⟨#[]⟩ : ByteArray) z11) (Br (decide (code2 >= ((x12.len : Nat) : Int))) (R (⟨#[]⟩ : ByteArray) z11) (0 <= code2 /\ code2 < (x12.len : Nat) /\ Nn x12.p fun a24=>
       Ld z11 (a24.add ((code2).toNat * 1)) .string fun x25=>
       C141 x25 z11 fun r26 z27=>
        R r26 z27)))))
def pl120 : Plan := (.q (.seq (.q (.q (.cond (.q .leaf) .leaf))) (.q (.seq (.q (.cond (.reg .seq) .leaf)) (.seq (.q (.cond (.q .leaf) .leaf)) (.q .leaf))))))
theorem T120 (f1 : TyA34) (code2 : Int) (w : World) (R : ByteArray -> World -> Prop) (h : S120 f1 code2 w R) : C120 f1 code2 w R := by
 have e : fnT Tryz.prog ⟨FF,MAY,(fun _ _=> False)⟩ pl120 Tryz.f120 [.agg (Sig.cells LiA34 f1).toArray,.int .i64 code2] w [(.one .str)] (fun s w=> R s w) = S120 f1 code2 w R := by kernel_rfl
 exact (fn_calls okF okM Tryz.func120 (by kernel_rfl) (by kernel_rfl) (e.mpr h)).mono fun _ _ ⟨s,he,hR⟩=> ⟨s,he,hR⟩
end Go.Proofs.YtcblpehnkogfdaaGreatDoor

/- What 'append' does to a slice that owns its row; reading and writing a row; bytes to a string. Conditions: sizes. -/
namespace Go.Proofs.YtcblpehnkogfdaaGreatDoor
namespace Sh
def Row (w : World) (s : Slc) (e : TypeId) (k : Nat) (xs : List Value) : Prop :=
 xs.length = s.len * k /\ (s = ⟨none,0,0⟩ \/ ∃ g cur,s.p = some ⟨g,0,none⟩ /\ Blk w g cur e /\ s.len <= s.cap /\ cur.size = s.cap * k /\ cur.toList.take (s.len * k) = xs)
def Slc.own (s : Slc) (j : Nat) : Prop := ∃ a,s.p = some a /\ a.block = j
theorem Row.nil (w : World) (e : TypeId) (k : Nat) : Row w ⟨none,0,0⟩ e k [] := ⟨by simp,.inl rfl⟩
theorem Row.own_lt {w : World} {s : Slc} {e : TypeId} {k : Nat} {xs : List Value} (h : Row w s e k xs) {j : Nat} (hj : s.own j) : j < w.heap.size := by
 obtain ⟨a,ha,rfl⟩ := hj
 rcases h.2 with rfl | ⟨g,cur,hp,hb,_⟩
 ·cases ha
 ·rw [hp] at ha; cases ha; exact hb.lt
theorem Row.keep {F : Nat -> Prop} {w w' : World} {s : Slc} {e : TypeId} {k : Nat} {xs : List Value} (h : Row w s e k xs) (he : Ext F w w') (hn : ∀ j,s.own j -> ¬ F j) : Row w' s e k xs := by
 refine ⟨h.1,?_⟩
 rcases h.2 with h2 | ⟨g,cur,hp,hb,r⟩
 ·exact .inl h2
 ·exact .inr ⟨g,cur,hp,he.blk hb (hn g ⟨_,hp,rfl⟩),r⟩
theorem Row.new (w : World) (cs : Array Value) (e : TypeId) (k n : Nat) (h : cs.size = n * k) : Row (w.alloc (.cells cs e)) ⟨some ⟨w.heap.size,0,none⟩,n,n⟩ e k cs.toList :=
 ⟨by simpa using h,.inr ⟨_,cs,rfl,Blk.new w cs e,Nat.le_refl _,h,List.take_of_length_le (by simp [h])⟩⟩
theorem Row.cell {w : World} {s : Slc} {e : TypeId} {k : Nat} {xs : List Value} (h : Row w s e k xs) {j : Nat} {v : Value} (hj : xs[j]? = some v) : ∃ g,s.p = some ⟨g,0,none⟩ /\ w.cell? ⟨g,j,none⟩ = some v := by
 rcases h.2 with h2 | ⟨g,cur,hp,hb,_,_,ht⟩
 ·have h1 := h.1
  rw [h2] at h1
  have : xs = [] := List.eq_nil_of_length_eq_zero (by simpa using h1)
  rw [this] at hj; cases hj
 ·refine ⟨g,hp,?_⟩
  rw [hb.cell]
  rw [<- ht,List.getElem?_take] at hj
  split at hj
  ·simpa using hj
  ·cases hj
section
variable {P : Program} {w : World} {s : Slc} {t u ty e : TypeId} {i : TypeInfo} {z : Value} {xs news : List Value} {x : Value} {m : Nat}
theorem append_any (ht : P.underlying t = some (.slice e)) (hu : (∃ e',P.underlying u = some (.slice e')) \/ P.underlying u = some .string) (hi : P.info? e = some i) (hz : i.zero = some z) (hzs : z.cells.size = i.size)
  (hlen : Builtin.lenOf x = pure m) (hcells : ∀ w' : World,w'.heap = w.heap -> (Builtin.firstCells i.size m x).run P w' = .ok news.toArray w') (hl : news.length = m * i.size)
  (h1 : ∀ v ∈ news,v.oneCell' = true) (own : Row w s e i.size xs) (hb : (s.len + m) * i.bytes <= 140737488355328) (h63 : s.len + m <= 9223372036854775807) :
  ∃ s' w',RunV P (Builtin.append_ #[t,u] ty #[Slc.v s,x]) w (Slc.v s') w' /\ Row w' s' e i.size (xs ++ news) /\ s'.len = s.len + m /\ Ext s.own w w' /\ ∀ j,s'.own j -> s.own j \/ w.heap.size <= j := by
 have hx1 := own.1
 have hlenr : (xs ++ news).length = (s.len + m) * i.size := by rw [List.length_append,hx1,hl,Nat.add_mul]
 -- a new row
 have grown : ∀ (c : Nat),Row (w.drew.alloc (.cells (xs.toArray ++ news.toArray ++ Builtin.zeroCells z.cells (grownCap w (s.len + m) c e - (s.len + m))) e))
   ⟨some ⟨w.heap.size,0,none⟩,s.len + m,grownCap w (s.len + m) c e⟩ e i.size (xs ++ news) := by
  intro c
  have hge := grownCap_ge w (s.len + m) c e
  refine ⟨hlenr,.inr ⟨_,_,rfl,Blk.new w.drew _ e,hge,?_,?_⟩⟩
  ·simp only [Array.size_append,List.size_toArray,size_zeroCells,hzs,hx1,hl,<- Nat.add_mul]
   congr 1
   omega
  ·simp only [Array.toList_append]
   rw [<- hlenr]
   exact List.take_left
 have hfits : ∀ c,c < s.len + m -> Builtin.nextslicecap (s.len + m) c * i.bytes <= 281474976710656 := fun c hc=> growslice_fits hc hb
 have h63' : ¬ (((s.len + m : Nat) : Int) > IntKind.i64.max) := by
  have : IntKind.i64.max = 9223372036854775807 := by decide
  omega
 have hd : w.drew.heap = w.heap := rfl
 rcases own.2 with rfl | ⟨g,cur,hp,hg,hle,hsz,htk⟩
 ·-- the slice is nil
  have hx : xs = [] := List.eq_nil_of_length_eq_zero (by simpa using hx1)
  subst hx
  by_cases hm : m = 0
  ·subst hm
   have hn : news = [] := List.eq_nil_of_length_eq_zero (by simpa using hl)
   subst hn
   refine ⟨⟨none,0,0⟩,w,?_,Row.nil w e i.size,rfl,Ext.refl _ _,fun j hj=> .inl hj⟩
   have hc := hcells w rfl
   rcases hu with ⟨e',hu⟩ | hu <;>
    simp [RunV,Slc.v,Builtin.append_,run_underlying ht,run_underlying hu,sizeOf,typeInfo,hi,hlen,hc]
  ·refine ⟨_,_,?_,grown 0,rfl,((Ext.refl _ w).drew).alloc _,fun j hj=> ?_⟩
   ·have hc := hcells w.drew hd
    have hn : ¬ (0 + m <= 0) := by omega
    have hf := hfits 0 (by simp; omega)
    simp only [Nat.zero_add] at hf h63'
    have hf' : ¬ (281474976710656 < Builtin.nextslicecap m 0 * i.bytes) := by omega
    have h6 : ¬ (9223372036854775807 < (m : Int)) := by simp only [Nat.zero_add] at h63; omega
    rcases hu with ⟨e',hu⟩ | hu <;>
     simp [RunV,Slc.v,Builtin.append_,run_underlying ht,run_underlying hu,sizeOf,typeInfo,zeroValue,hi,hz,hlen,hm,h6,hf',Question.forced,run_firstCells_none,hc,newRow,grownCap]
   ·obtain ⟨a,ha,rfl⟩ := hj
    cases ha
    exact .inr (Nat.le_refl _)
 ·obtain ⟨p,len,cap⟩ := s
  simp only at hp hle hsz htk hx1 hlenr hb h63 h63' hfits grown
  subst hp
  by_cases hroom : len + m <= cap
  ·-- there is room
   have hfit : len * i.size + news.length <= cur.size := by rw [hl,hsz,<- Nat.add_mul]; exact Nat.mul_le_mul_right _ hroom
   have hst := run_storeCells_at P g (len * i.size) e news 0 cur w hg (by simpa using hfit) h1
   simp only [Nat.add_zero] at hst
   have hc := hcells w rfl
   refine ⟨⟨some ⟨g,0,none⟩,len + m,cap⟩,w.setRow g (cur.toList.take (len * i.size) ++ news ++ cur.toList.drop (len * i.size + news.length)).toArray,?_,⟨hlenr,.inr ⟨g,(cur.toList.take (len * i.size) ++ news ++ cur.toList.drop (len * i.size + news.length)).toArray,rfl,setRow_heap w g cur _ e _ hg,hroom,?_,?_⟩⟩,rfl,⟨rfl,rfl,rfl,by simp [World.setRow],fun k _ hk=> setRow_other w g k _ (fun e=> hk ⟨_,rfl,e.symm⟩)⟩,fun j hj=> .inl hj⟩
   ·rcases hu with ⟨e',hu⟩ | hu <;>
     simp [RunV,Slc.v,Builtin.append_,run_underlying ht,run_underlying hu,sizeOf,typeInfo,hi,hlen,hroom,hc,hst]
   ·simp only [List.size_toArray,List.length_append,List.length_take,List.length_drop,Array.length_toList]
    omega
   ·rw [htk]
    show List.take ((len + m) * i.size) _ = _
    rw [<- hlenr]
    exact List.take_left
  ·-- it must grow
   refine ⟨_,_,?_,grown cap,rfl,((Ext.refl _ w).drew).alloc _,fun j hj=> ?_⟩
   ·have hc := hcells w.drew hd
    have hf := hfits cap (by omega)
    have hf' : ¬ (281474976710656 < Builtin.nextslicecap (len + m) cap * i.bytes) := by omega
    have h6 : ¬ (9223372036854775807 < ((len : Int) + (m : Int))) := by omega
    have holds : ∀ j v,xs[j]? = some v -> w.drew.cell? ((⟨g,0,none⟩ : Addr).add j) = some v := fun j v hj=> by
     obtain ⟨g',hg',h⟩ := own.cell hj
     cases hg'
     simpa using h
    have hfo := run_firstCells_some (P := P) w.drew i.size len ⟨g,0,none⟩ len cap xs hx1 holds
    rcases hu with ⟨e',hu⟩ | hu <;>
     simp [RunV,Slc.v,Builtin.append_,run_underlying ht,run_underlying hu,sizeOf,typeInfo,zeroValue,hi,hz,hlen,hroom,h6,hf',Question.forced,hfo,hc,newRow,grownCap] <;>
     (congr 2; apply Array.ext'; simp [List.append_assoc])
   ·obtain ⟨a,ha,rfl⟩ := hj
    cases ha
    exact .inr (Nat.le_refl _)
end
end Sh
end Go.Proofs.YtcblpehnkogfdaaGreatDoor

/- Rows of elements of any type: append, make, element by element. Conditions: sizes. -/
namespace Go.Proofs.YtcblpehnkogfdaaGreatDoor
namespace Sh
structure El (P : Program) (t e : TypeId) (k B : Nat) (z : Value) : Prop where
 und : P.underlying t = some (.slice e)
 size : (P.info? e).map (·.size) = some k
 bytes : (P.info? e).map (·.bytes) = some B
 zero : (P.info? e).bind (·.zero) = some z
 cells : z.cells.size = k
def VRow (w : World) (s : Slc) (k : Nat) (ys : List Value) : Prop := ys.length = s.len * k /\ ∀ j v,ys[j]? = some v -> ∃ a,s.p = some a /\ w.cell? (a.add j) = some v
theorem VRow.keep {w w' : World} {s : Slc} {k : Nat} {ys : List Value} (h : VRow w s k ys) (he : Ext (fun _=> False) w w') : VRow w' s k ys :=
 ⟨h.1,fun j v hj=> by obtain ⟨a,ha,hc⟩ := h.2 j v hj; exact ⟨a,ha,he.cell_same hc⟩⟩
theorem add_block (a : Addr) (n : Nat) : (a.add n).block = a.block := by unfold Addr.add; split <;> (try split) <;> rfl
theorem VRow.keepF {F : Nat -> Prop} {w w' : World} {s : Slc} {k : Nat} {ys : List Value} (h : VRow w s k ys) (he : Ext F w w') (hF : ∀ j,s.own j -> ¬ F j) : VRow w' s k ys :=
 ⟨h.1,fun j v hj=> by
  obtain ⟨a,ha,hc⟩ := h.2 j v hj
  refine ⟨a,ha,?_⟩
  rw [he.cell (cell_lt' hc) (by rw [add_block]; exact hF _ ⟨a,ha,rfl⟩)]
  exact hc⟩
theorem Row.view {w : World} {s : Slc} {e : TypeId} {k : Nat} {xs : List Value} (h : Row w s e k xs) : VRow w s k xs :=
 ⟨h.1,fun j v hj=> by
  obtain ⟨g,hg,hc⟩ := h.cell hj
  exact ⟨_,hg,by rw [add_lit,Nat.zero_add]; exact hc⟩⟩
theorem VRow.of {w : World} {b n k : Nat} {cs : List Value} {t : TypeId} (hb : Blk w b cs.toArray t) (hn : cs.length = n * k) : VRow w ⟨some ⟨b,0,none⟩,n,n⟩ k cs :=
 ⟨hn,fun j v hj=> ⟨_,rfl,by rw [add_lit,hb.cell,Nat.zero_add]; simpa using hj⟩⟩
section
variable {P : Program} {t e : TypeId} {k B : Nat} {z : Value} {w : World} {s s2 : Slc} {ty : TypeId} {xs ys : List Value}
theorem El.info (h : El P t e k B z) : ∃ i,P.info? e = some i /\ i.size = k /\ i.bytes = B /\ i.zero = some z := by
 cases hi : P.info? e with
 | none=> have := h.size; rw [hi] at this; cases this
 | some i=>
  have h1 := h.size; have h2 := h.bytes; have h3 := h.zero
  rw [hi] at h1 h2 h3
  exact ⟨i,rfl,by simpa using h1,by simpa using h2,by simpa using h3⟩
theorem El.app (h : El P t e k B z) (own : Row w s e k xs) (h2 : VRow w s2 k ys) (h1 : ∀ v ∈ ys,v.oneCell' = true) (hb : (s.len + s2.len) * B <= 140737488355328) (h63 : s.len + s2.len <= 9223372036854775807) :
  ∃ s' w',RunV P (Builtin.append_ #[t,t] ty #[Slc.v s,Slc.v s2]) w (Slc.v s') w' /\ Row w' s' e k (xs ++ ys) /\ s'.len = s.len + s2.len /\ Ext s.own w w' /\ ∀ j,s'.own j -> s.own j \/ w.heap.size <= j := by
 obtain ⟨i,hi,rfl,rfl,hz⟩ := h.info
 refine append_any (P := P) (w := w) (s := s) (t := t) (u := t) (ty := ty) (e := e) (i := i) (z := z) (xs := xs) (news := ys) (x := Slc.v s2) (m := s2.len) h.und (.inl ⟨_,h.und⟩) hi hz h.cells rfl (fun w' hw'=> ?_) h2.1 h1 own hb h63
 obtain ⟨p,len,cap⟩ := s2
 cases p with
 | none=>
  have hy : ys = [] := by
   cases ys with
   | nil=> rfl
   | cons y r=>
    obtain ⟨a,ha,_⟩ := h2.2 0 y rfl
    cases ha
  subst hy
  have hl := h2.1
  simp only [List.length_nil] at hl
  exact run_firstCells_none (P := P) (w := w') _ _ _ _
 | some a=>
  refine run_firstCells_some w' i.size len a len cap ys h2.1 fun j v hj=> ?_
  obtain ⟨a',ha,hc⟩ := h2.2 j v hj
  cases ha
  unfold World.cell? at hc ⊢
  rw [hw']
  exact hc
theorem El.app1 (h : El P t e k B z) {g : Nat} (own : Row w s e k xs) (hg : Blk w g ys.toArray e) (hl : ys.length = k) (h1 : ∀ v ∈ ys,v.oneCell' = true) (hb : (s.len + 1) * B <= 140737488355328) (h63 : s.len + 1 <= 9223372036854775807) :
  ∃ s' w',RunV P (Builtin.append_ #[t,t] ty #[Slc.v s,Slc.v ⟨some ⟨g,0,none⟩,1,1⟩]) w (Slc.v s') w' /\ Row w' s' e k (xs ++ ys) /\ s'.len = s.len + 1 /\ Ext s.own w w' /\ ∀ j,s'.own j -> s.own j \/ w.heap.size <= j :=
 h.app (s2 := ⟨some ⟨g,0,none⟩,1,1⟩) own (VRow.of hg (by omega)) h1 hb h63
theorem flat_get {zs : List Value} (hk : zs.length = k) : ∀ (c j : Nat),((List.replicate c zs).flatten)[j]? = if j < c * k then zs[j % k]? else none
 | 0,j=> by simp
 | c + 1,j=> by
  rw [List.replicate_succ,List.flatten_cons]
  by_cases hj : j < k
  ·rw [List.getElem?_append_left (by omega),if_pos (by rw [Nat.add_mul]; omega),Nat.mod_eq_of_lt hj]
  ·rw [List.getElem?_append_right (by omega),flat_get hk c (j - zs.length),hk,Nat.add_mul,Nat.one_mul]
   by_cases h2 : j < c * k + k
   ·have hm : j % k = (j - k) % k := by
     rw [<- Nat.add_mod_right (j - k) k,Nat.sub_add_cancel (by omega)]
    rw [if_pos (by omega),if_pos h2,hm]
   ·rw [if_neg (by omega),if_neg h2]
theorem made_list {zs : List Value} (hz : z.cells.toList = zs) (hk : zs.length = k) (c : Nat) : (madeCells z.cells (c * k)).toList = (List.replicate c zs).flatten := by
 have hsz : z.cells.size = k := by rw [<- Array.length_toList,hz,hk]
 apply List.ext_getElem?
 intro j
 rw [flat_get hk]
 by_cases hj : j < c * k
 ·have hk0 : 0 < k := by
   rcases Nat.eq_zero_or_pos k with h | h
   ·subst h; omega
   ·exact h
  have hm : j % k < k := Nat.mod_lt _ hk0
  rw [if_pos hj]
  unfold madeCells
  simp only [Array.toList_map,Array.toList_range,List.getElem?_map,List.getElem?_range hj,Option.map_some,hsz]
  rw [<- hz,Array.getElem?_toList]
  have : j % k < z.cells.size := by omega
  rw [Array.getElem?_eq_getElem this]
  simp [Array.getElem!_eq_getD,Array.getD,this]
 ·rw [if_neg hj,List.getElem?_eq_none]
  rw [Array.length_toList,size_madeCells]
  omega
theorem El.make (h : El P t e k B z) {zs : List Value} (hz : z.cells.toList = zs) (w : World) (n : Nat) (hb : B * n <= 281474976710656) (h63 : n <= 9223372036854775807) :
  ∃ w',RunV P (Instr.makeSlice t (.int .i64 (n : Int)) (.int .i64 (n : Int))) w (Slc.v ⟨some ⟨w.heap.size,0,none⟩,n,n⟩) w' /\ w' = w.alloc (.cells ((List.replicate n zs).flatten).toArray e) := by
 obtain ⟨i,hi,rfl,rfl,hzi⟩ := h.info
 have hr := run_make (P := P) w t e i z h.und hi hzi .i64 .i64 n n (by omega) (by omega) (by have h : ((i.bytes * n : Nat) : Int) <= 281474976710656 := (by omega); rwa [Int.natCast_mul] at h) (by omega)
 simp only [Int.toNat_natCast] at hr
 have hl := made_list (k := i.size) hz (by rw [<- hz,Array.length_toList]; exact h.cells) n
 refine ⟨_,hr,?_⟩
 rw [<- hl]
end
def StL (b : Nat) : Nat -> List Value -> World -> (World -> Prop) -> Prop
 | _,[],w,K=> K w
 | o,v :: vs,w,K=> St w ⟨b,o,none⟩ v fun w'=> StL b (o + 1) vs w' K
theorem set_at {pre post : List Value} {c v : Value} : (pre ++ c :: post).set pre.length v = pre ++ v :: post := by
 rw [List.set_append_right _ _ (Nat.le_refl _),Nat.sub_self]
 rfl
theorem Hn.stL {w0 : World} {L : List (Nat × List Value × TypeId)} {b : Nat} {t : TypeId} {i : Nat} {K : World -> Prop} : ∀ (vs zs pre post : List Value) (o : Nat) (w : World),Hn w0 w L -> L[i]? = some (b,pre ++ (zs ++ post),t) -> pre.length = o -> zs.length = vs.length ->
  (∀ w2,Hn w0 w2 (L.set i (b,pre ++ (vs ++ post),t)) -> K w2) -> StL b o vs w K
 | [],zs,pre,post,o,w,h,hi,ho,hz,k=> by
  have : zs = [] := List.eq_nil_of_length_eq_zero hz
  subst this
  have e : L.set i (b,pre ++ ([] ++ post),t) = L := by
   apply List.ext_getElem?
   intro j
   rw [List.getElem?_set]
   split
   ·rename_i hij
    subst hij
    rw [if_pos (List.getElem?_eq_some_iff.1 hi).1,hi]
   ·rfl
  exact k w (by rw [e]; exact h)
 | v :: vs,[],pre,post,o,w,h,hi,ho,hz,k=> by cases hz
 | v :: vs,z :: zs,pre,post,o,w,h,hi,ho,hz,k=> by
  refine h.st i hi (by rw [<- ho]; simp) fun w2 h2=> ?_
  have e : (pre ++ (z :: zs ++ post)).set o v = (pre ++ [v]) ++ (zs ++ post) := by
   rw [<- ho,List.cons_append,set_at]
   simp
  rw [e] at h2
  have hlt : i < L.length := (List.getElem?_eq_some_iff.1 hi).1
  refine Hn.stL vs zs (pre ++ [v]) post (o + 1) w2 h2 (by rw [List.getElem?_set_self hlt]) (by simp [ho]) (by simpa using hz) fun w3 h3=> k w3 ?_
  rw [List.set_set] at h3
  simpa using h3
end Sh
end Go.Proofs.YtcblpehnkogfdaaGreatDoor

/- What an argument's reading tells: its cells, kind by kind. No condition. -/
namespace Go.Proofs.YtcblpehnkogfdaaGreatDoor
namespace Sh
def RdC (P : Program) (w : World) : Nat -> TypeId -> List Value -> Prop
 | 0,_,_=> False
 | n + 1,t,cs=> match P.underlying t with
  | some (.int k)=> ∃ x,cs = [.int k x] /\ (Lit.int k x).wf = true
  | some .bool=> ∃ b,cs = [.bool b]
  | some .string=> ∃ s : ByteArray,cs = [.string s] /\ s.size <= maxLen
  | some (.slice e)=> ∃ s : Slc,cs = [Slc.v s] /\ (s = ⟨none,0,0⟩ \/ ∃ a,s.p = some a /\ s.len <= s.cap /\ s.cap <= maxLen /\
    ∀ i,i < s.len -> ∃ cs',cs'.length = P.cellsOf e /\ (∀ j,j < P.cellsOf e -> w.cell? (a.add (i * P.cellsOf e + j)) = cs'[j]?) /\ RdC P w n e cs')
  | some (.struct fs)=> cs.length = P.cellsOf t /\ ∀ (i : Nat) (f : Field),fs[i]? = some f -> RdC P w n f.type ((cs.drop f.offset).take (P.cellsOf f.type))
  | some (.array m e)=> cs.length = P.cellsOf t /\ ∀ i,i < m -> RdC P w n e ((cs.drop (i * P.cellsOf e)).take (P.cellsOf e))
  | some (.pointer e)=> ∃ p : Option Addr,cs = [.pointer p] /\ ∀ a,p = some a -> ∃ cs',cs'.length = P.cellsOf e /\ (∀ j,j < P.cellsOf e -> w.cell? (a.add j) = cs'[j]?) /\ RdC P w n e cs'
  | _=> True
theorem add_add' (a : Addr) (i j : Nat) : (a.add i).add j = a.add (i + j) := by
 unfold Addr.add
 split
 ·rename_i h; subst h; simp
 ·split
  ·rename_i h; subst h; simp_all
  ·split
   ·omega
   ·simp [Nat.add_assoc]
theorem rdC_of {H : Type} {enc : TypeId × Value -> H} {P : Program} {w : World} {spare : Nat -> Bool} {held : Bool} : ∀ (n : Nat) (t : TypeId) (cs : List Value) (x : DataW H × List MemPlace),
  DataW.trod enc P w 0 spare held n t cs = some x -> RdC P w n t cs
 | 0,t,cs,x,h=> by simp [DataW.trod] at h
 | n + 1,t,cs,x,h=> by
  unfold RdC
  split
  ·rename_i k ht
   obtain ⟨y,h1,_,h2⟩ := DataW.trod_int ht h
   exact ⟨y,h1,h2⟩
  ·rename_i ht
   obtain ⟨y,h1,_⟩ := DataW.trod_bool ht h
   exact ⟨y,h1⟩
  ·rename_i ht
   obtain ⟨y,h1,_,h2⟩ := DataW.trod_string ht h
   exact ⟨y,h1,h2⟩
  ·rename_i e ht
   rcases DataW.trod_slice ht h with ⟨h0,_⟩ | ⟨a,len,cap,elems,rest,m,hm,hcs,_,_,hl,hc,hel,hi,_⟩
   ·exact ⟨⟨none,0,0⟩,h0,.inl rfl⟩
   ·cases hm
    refine ⟨⟨some a,len,cap⟩,hcs,.inr ⟨a,rfl,hl,hc,fun i hil=> ?_⟩⟩
    have hg : elems[i]? = some (elems[i]'(by rw [hel]; exact hil)) := List.getElem?_eq_getElem _
    have h2 := (hi i hil).trans hg
    obtain ⟨cs',h3,h4⟩ := Option.bind_eq_some_iff.1 h2
    obtain ⟨_,h5,h6⟩ := World.cells?_some h3
    exact ⟨cs',h5,fun j hj=> by rw [<- add_add']; exact h6 j hj,rdC_of n e cs' _ h4⟩
  ·rename_i fs ht
   obtain ⟨xs,m,hm,_,hl,hxl,hf⟩ := DataW.trod_struct ht h
   cases hm
   refine ⟨hl,fun i f hfi=> ?_⟩
   have hlt : i < fs.size := (Array.getElem?_eq_some_iff.1 hfi).1
   exact rdC_of n f.type _ _ ((hf i f hfi).trans (List.getElem?_eq_getElem (by rw [hxl]; exact hlt)))
  ·rename_i m e ht
   obtain ⟨xs,m',hm,_,hl,hxl,hf⟩ := DataW.trod_array ht h
   cases hm
   exact ⟨hl,fun i hi=> rdC_of n e _ _ ((hf i hi).trans (List.getElem?_eq_getElem (by rw [hxl]; exact hi)))⟩
  ·rename_i e ht
   rcases DataW.trod_pointer ht h with ⟨h0,_⟩ | ⟨a,cs',y,m,hm,hcs,_,hc,hy⟩
   ·exact ⟨none,h0,fun a ha=> by cases ha⟩
   ·cases hm
    refine ⟨some a,hcs,fun a' ha=> ?_⟩
    cases ha
    obtain ⟨_,h5,h6⟩ := World.cells?_some hc
    exact ⟨cs',h5,h6,rdC_of n e cs' y hy⟩
  ·trivial
theorem rdC_Trod {H : Type} {enc : TypeId × Value -> H} {P : Program} {w : World} {spare : Nat -> Bool} {held : Bool} {t : TypeId} {v : Value} {d : DataW H} {ps : List MemPlace}
  (h : DataW.Trod enc P w 0 spare held t v d ps) : ∃ n,RdC P w n t v.cells.toList := by
 obtain ⟨n,hn⟩ := h
 exact ⟨n,rdC_of n t _ _ hn⟩
def fieldsAt (P : Program) (t : TypeId) : Option (List (Nat × TypeId)) := match P.underlying t with
 | some (.struct fs)=> some (fs.toList.map fun f=> (f.offset,f.type))
 | _=> none
section
variable {P : Program} {w : World} {n : Nat} {t : TypeId} {cs : List Value}
theorem rdC_struct {L : List (Nat × TypeId)} (hL : fieldsAt P t = some L) (h : RdC P w n t cs) : cs.length = P.cellsOf t /\ ∃ m,∀ (i o : Nat) (u : TypeId),L[i]? = some (o,u) -> RdC P w m u ((cs.drop o).take (P.cellsOf u)) := by
 cases n with
 | zero=> exact h.elim
 | succ n=>
  unfold RdC at h
  unfold fieldsAt at hL
  split at hL
  ·rename_i fs hu
   rw [hu] at h
   cases hL
   refine ⟨h.1,n,fun i o u hi=> ?_⟩
   rw [List.getElem?_map] at hi
   obtain ⟨f,h1,h2⟩ := Option.map_eq_some_iff.1 hi
   cases h2
   exact h.2 i f (by simpa using h1)
  ·cases hL
theorem rdC_int {k : IntKind} (hu : P.underlying t = some (.int k)) (h : RdC P w n t cs) : ∃ x,cs = [.int k x] /\ (Lit.int k x).wf = true := by
 cases n with
 | zero=> exact h.elim
 | succ n=> unfold RdC at h; rw [hu] at h; exact h
theorem rdC_bool (hu : P.underlying t = some .bool) (h : RdC P w n t cs) : ∃ b,cs = [.bool b] := by
 cases n with
 | zero=> exact h.elim
 | succ n=> unfold RdC at h; rw [hu] at h; exact h
theorem rdC_string (hu : P.underlying t = some .string) (h : RdC P w n t cs) : ∃ s : ByteArray,cs = [.string s] /\ s.size <= maxLen := by
 cases n with
 | zero=> exact h.elim
 | succ n=> unfold RdC at h; rw [hu] at h; exact h
theorem rdC_slice {e : TypeId} (hu : P.underlying t = some (.slice e)) (h : RdC P w n t cs) : ∃ (s : Slc) (m : Nat),cs = [Slc.v s] /\ (s = ⟨none,0,0⟩ \/ ∃ a,s.p = some a /\ s.len <= s.cap /\ s.cap <= maxLen /\
  ∀ i,i < s.len -> ∃ cs',cs'.length = P.cellsOf e /\ (∀ j,j < P.cellsOf e -> w.cell? (a.add (i * P.cellsOf e + j)) = cs'[j]?) /\ RdC P w m e cs') := by
 cases n with
 | zero=> exact h.elim
 | succ n=>
  unfold RdC at h
  rw [hu] at h
  obtain ⟨s,h1,h2⟩ := h
  exact ⟨s,n,h1,h2⟩
end
theorem rdC_arg_slice {H : Type} {enc : TypeId × Value -> H} {P : Program} {W : World} {spare : Nat -> Bool} {held : Bool} {t e : TypeId} {v : Value} {d : DataW H} {ps : List MemPlace} {rr : Reach} {b0 : Nat}
  (hu : P.underlying t = some (.slice e)) (h0 : Value.okWide P W rr b0 t v) (h : DataW.Trod enc P W 0 spare held t v d ps) : ∃ n,RdC P W n t [v] := by
 obtain ⟨n,hn⟩ := rdC_Trod h
 obtain ⟨a,len,cap,rfl⟩ := Go.WideShapes.okWide_slice hu h0
 exact ⟨n,hn⟩
def isLeaf : TypeDesc -> Bool
 | .int _ | .bool | .string | .slice _ | .pointer _=> true
 | _=> false
def leafAt (P : Program) : Nat -> TypeId -> Nat -> Option TypeId
 | 0,_,_=> none
 | k + 1,t,i=> match P.underlying t with
  | some (.struct fs)=> match fs.toList.find? (fun f=> Nat.ble f.offset i && Nat.blt i (f.offset + P.cellsOf f.type)) with
   | some f=> leafAt P k f.type (i - f.offset)
   | none=> none
  | some (.array m e)=> match Nat.blt (i / P.cellsOf e) m && Nat.blt (i % P.cellsOf e) (P.cellsOf e) with
   | true=> leafAt P k e (i % P.cellsOf e)
   | false=> none
  | some d=> match isLeaf d,i with
   | true,0=> some t
   | _,_=> none
  | none=> none
theorem take_drop_one {α : Type} (l : List α) {o s j : Nat} (hj : j < s) : (((l.drop o).take s).drop j).take 1 = (l.drop (o + j)).take 1 := by
 rw [List.drop_take,List.take_take,List.drop_drop,Nat.min_eq_left (by omega)]
theorem rdC_one {P : Program} {w : World} {n : Nat} {t : TypeId} {cs : List Value} {d : TypeDesc} (hu : P.underlying t = some d) (hd : isLeaf d = true) (h : RdC P w n t cs) : (cs.drop 0).take 1 = cs := by
 cases n with
 | zero=> exact h.elim
 | succ n=>
  unfold RdC at h
  rw [hu] at h
  cases d <;> simp only [isLeaf,Bool.false_eq_true] at hd
  all_goals
   obtain ⟨x,h1⟩ := h
   first
    | (subst h1; rfl)
    | (rw [h1.1]; rfl)
theorem rdC_leaf {P : Program} {w : World} : ∀ (k n : Nat) (t : TypeId) (cs : List Value) (i : Nat) (u : TypeId),RdC P w n t cs -> leafAt P k t i = some u -> ∃ m,RdC P w m u ((cs.drop i).take 1)
 | 0,_,_,_,_,_,_,h=> by cases h
 | k + 1,0,t,cs,i,u,h0,h=> h0.elim
 | k + 1,n + 1,t,cs,i,u,h0,h=> by
  unfold leafAt at h
  have h1 := h0
  unfold RdC at h1
  split at h
  ·rename_i fs hu
   rw [hu] at h1
   split at h
   ·rename_i f hf
    obtain ⟨hp,asx,bs,hfs,_⟩ := List.find?_eq_some_iff_append.1 hf
    simp only [Bool.and_eq_true] at hp
    have h2 := Nat.le_of_ble_eq_true hp.1
    have h3 : i < f.offset + P.cellsOf f.type := Nat.le_of_ble_eq_true hp.2
    have hget : fs[asx.length]? = some f := by
     have : fs.toList[asx.length]? = some f := by rw [hfs]; simp
     simpa using this
    obtain ⟨m,hm⟩ := rdC_leaf k n f.type _ (i - f.offset) u (h1.2 _ f hget) h
    rw [take_drop_one _ (by omega),show f.offset + (i - f.offset) = i by omega] at hm
    exact ⟨m,hm⟩
   ·cases h
  ·rename_i m e hu
   rw [hu] at h1
   split at h
   ·rename_i hb
    simp only [Bool.and_eq_true] at hb
    have h2 : i / P.cellsOf e < m := Nat.le_of_ble_eq_true hb.1
    have h3 : i % P.cellsOf e < P.cellsOf e := Nat.le_of_ble_eq_true hb.2
    obtain ⟨m',hm⟩ := rdC_leaf k n e _ (i % P.cellsOf e) u (h1.2 _ h2) h
    rw [take_drop_one _ h3,Nat.div_add_mod' i (P.cellsOf e)] at hm
    exact ⟨m',hm⟩
   ·cases h
  ·rename_i d _ _ hu
   split at h
   ·rename_i hd
    cases h
    exact ⟨n + 1,by rw [rdC_one hu hd h0]; exact h0⟩
   ·cases h
  ·cases h
theorem take_one {α : Type} {l : List α} {i : Nat} {c : α} (h : l[i]? = some c) : (l.drop i).take 1 = [c] := by
 rw [List.getElem?_eq_some_iff] at h
 obtain ⟨hi,rfl⟩ := h
 rw [List.drop_eq_getElem_cons hi]
 rfl
theorem rdC_len {P : Program} {w : World} {n : Nat} {t : TypeId} {cs : List Value} (ha : isAggD (P.underlying t) = true) (h : RdC P w n t cs) : cs.length = P.cellsOf t := by
 cases n with
 | zero=> exact h.elim
 | succ n=>
  unfold RdC at h
  unfold isAggD at ha
  split at ha
  ·rename_i fs hu
   rw [hu] at h
   exact h.1
  ·rename_i m e hu
   rw [hu] at h
   exact h.1
  ·cases ha
section
variable {P : Program} {w : World} {n k i : Nat} {t u : TypeId} {cs : List Value} {c : Value}
theorem leaf_int {q : IntKind} (hl : leafAt P k t i = some u) (hu : P.underlying u = some (.int q)) (h : RdC P w n t cs) (hc : cs[i]? = some c) : ∃ x,c = .int q x /\ (Lit.int q x).wf = true := by
 obtain ⟨m,hm⟩ := rdC_leaf k n t cs i u h hl
 obtain ⟨x,h1,h2⟩ := rdC_int hu hm
 refine ⟨x,?_,h2⟩
 rw [take_one hc] at h1
 simpa using h1
theorem leaf_string (hl : leafAt P k t i = some u) (hu : P.underlying u = some .string) (h : RdC P w n t cs) (hc : cs[i]? = some c) : ∃ x : ByteArray,c = .string x /\ x.size <= maxLen := by
 obtain ⟨m,hm⟩ := rdC_leaf k n t cs i u h hl
 obtain ⟨x,h1,h2⟩ := rdC_string hu hm
 refine ⟨x,?_,h2⟩
 rw [take_one hc] at h1
 simpa using h1
theorem leaf_slice {e : TypeId} (hl : leafAt P k t i = some u) (hu : P.underlying u = some (.slice e)) (h : RdC P w n t cs) (hc : cs[i]? = some c) : ∃ x : Slc,c = Slc.v x /\ ∃ m,RdC P w m u [c] := by
 obtain ⟨m,hm⟩ := rdC_leaf k n t cs i u h hl
 obtain ⟨x,_,h1,_⟩ := rdC_slice hu hm
 rw [take_one hc] at h1 hm
 exact ⟨x,by simpa using h1,m,hm⟩
end
theorem wf_i64 {n : Int} (h : (Lit.int .i64 n).wf = true) : -9223372036854775808 <= n /\ n <= 9223372036854775807 := by
 simpa [Lit.wf,show IntKind.i64.min = -9223372036854775808 by decide,show IntKind.i64.max = 9223372036854775807 by decide] using h
theorem rdC_arg_agg {H : Type} {enc : TypeId × Value -> H} {P : Program} {W : World} {spare : Nat -> Bool} {held : Bool} {t : TypeId} {v : Value} {d : DataW H} {ps : List MemPlace} {rr : Reach} {b0 : Nat}
  (ha : isAggD (P.underlying t) = true) (h0 : Value.okWide P W rr b0 t v) (h : DataW.Trod enc P W 0 spare held t v d ps) : ∃ cs : List Value,v = .agg cs.toArray /\ cs.length = P.cellsOf t /\ ∃ n,RdC P W n t cs := by
 obtain ⟨n,hn⟩ := rdC_Trod h
 have hv : ∃ cs : Array Value,v = .agg cs := by
  unfold isAggD at ha
  split at ha
  ·rename_i fs hu
   simp only [Value.okWide,hu] at h0
   obtain ⟨cs,h1,_⟩ := h0
   exact ⟨cs,h1⟩
  ·rename_i m e hu
   simp only [Value.okWide,hu] at h0
   obtain ⟨cs,h1,_⟩ := h0
   exact ⟨cs,h1⟩
  ·cases ha
 obtain ⟨cs,rfl⟩ := hv
 exact ⟨cs.toList,by simp,rdC_len ha hn,n,hn⟩
end Sh
end Go.Proofs.YtcblpehnkogfdaaGreatDoor

/- What an argument's reading tells, with its bulk. No condition. -/
namespace Go.Proofs.YtcblpehnkogfdaaGreatDoor
namespace Sh
def RdB (P : Program) (w : World) : Nat -> TypeId -> List Value -> Nat -> Prop
 | 0,_,_,_=> False
 | n + 1,t,cs,b=> match P.underlying t with
  | some (.int k)=> ∃ x,cs = [.int k x] /\ (Lit.int k x).wf = true
  | some .bool=> ∃ x,cs = [.bool x]
  | some .string=> ∃ s : ByteArray,cs = [.string s] /\ s.size <= maxLen /\ s.size < b
  | some (.slice e)=> ∃ s : Slc,cs = [Slc.v s] /\ (s = ⟨none,0,0⟩ \/ ∃ (a : Addr) (bs : List Nat),s.p = some a /\ s.len <= s.cap /\ s.cap <= maxLen /\ bs.length = s.len /\ bs.sum < b /\ s.len < b /\
    ∀ i x,bs[i]? = some x -> ∃ cs',cs'.length = P.cellsOf e /\ (∀ j,j < P.cellsOf e -> w.cell? (a.add (i * P.cellsOf e + j)) = cs'[j]?) /\ RdB P w n e cs' x)
  | some (.struct fs)=> cs.length = P.cellsOf t /\ ∃ bs : List Nat,bs.sum < b /\ ∀ (i : Nat) (f : Field),fs[i]? = some f -> ∃ x,bs[i]? = some x /\ RdB P w n f.type ((cs.drop f.offset).take (P.cellsOf f.type)) x
  | some (.array _ _)=> False
  | some (.pointer _)=> False
  | _=> True
theorem bulk_all {H : Type} (l : List (DataW H × List MemPlace)) : Rows.uptoBulkAll (l.map (·.1)) = (l.map fun x=> Rows.uptoBulk x.1).sum := by
 induction l with
 | nil=> simp [Rows.uptoBulkAll]
 | cons x l ih=> simp only [List.map_cons,Rows.uptoBulkAll,List.sum_cons,ih]
theorem bulk_one {H : Type} (d : DataW H) : 1 <= Rows.uptoBulk d := by
 cases d with
 | lit l=> cases l <;> simp [Rows.uptoBulk]
 | nil=> simp [Rows.uptoBulk]
 | ptr d=> simp [Rows.uptoBulk]
 | slice elems spare=> simp [Rows.uptoBulk]
 | agg parts=> simp [Rows.uptoBulk]
 | iface t d=> simp [Rows.uptoBulk]
 | map entries=> simp [Rows.uptoBulk]
 | held h=> simp [Rows.uptoBulk]
theorem bulk_len {H : Type} (l : List (DataW H × List MemPlace)) : l.length <= (l.map fun x=> Rows.uptoBulk x.1).sum := by
 induction l with
 | nil=> simp
 | cons x l ih=> have := bulk_one x.1; simp only [List.map_cons,List.sum_cons,List.length_cons]; omega
def flatT (P : Program) : Nat -> TypeId -> Bool
 | 0,_=> false
 | n + 1,t=> match P.underlying t with
  | some (.slice e)=> flatT P n e
  | some (.struct fs)=> fs.toList.all fun f=> flatT P n f.type
  | some (.array _ _)=> false
  | some (.pointer _)=> false
  | _=> true
theorem rdB_of {H : Type} {enc : TypeId × Value -> H} {P : Program} {w : World} {spare : Nat -> Bool} {held : Bool} : ∀ (n m : Nat) (t : TypeId) (cs : List Value) (x : DataW H × List MemPlace),flatT P m t = true ->
  DataW.trod enc P w 0 spare held n t cs = some x -> RdB P w n t cs (Rows.uptoBulk x.1)
 | 0,m,t,cs,x,_,h=> by simp [DataW.trod] at h
 | n + 1,0,t,cs,x,hf,h=> by simp [flatT] at hf
 | n + 1,m + 1,t,cs,x,hfl,h=> by
  unfold flatT at hfl
  unfold RdB
  split
  ·rename_i k ht
   obtain ⟨y,h1,_,h2⟩ := DataW.trod_int ht h
   exact ⟨y,h1,h2⟩
  ·rename_i ht
   obtain ⟨y,h1,_⟩ := DataW.trod_bool ht h
   exact ⟨y,h1⟩
  ·rename_i ht
   obtain ⟨y,h1,hx,h2⟩ := DataW.trod_string ht h
   refine ⟨y,h1,h2,?_⟩
   rw [hx]
   simp only [Rows.uptoBulk]
   rw [<- size_list]
   exact Nat.lt_succ_self _
  ·rename_i e ht
   rw [ht] at hfl
   rcases DataW.trod_slice ht h with ⟨h0,_⟩ | ⟨a,len,cap,elems,rest,k,hk,hcs,hx,_,hl,hc,hel,hi,_⟩
   ·exact ⟨⟨none,0,0⟩,h0,.inl rfl⟩
   ·cases hk
    have hb : Rows.uptoBulk x.1 = (elems.map fun x=> Rows.uptoBulk x.1).sum + Rows.uptoBulkAll (rest.map (·.1)) + 1 := by
     rw [hx]
     simp only [Rows.uptoBulk]
     rw [bulk_all]
    have hl2 := bulk_len elems
    refine ⟨⟨some a,len,cap⟩,hcs,.inr ⟨a,elems.map fun x=> Rows.uptoBulk x.1,rfl,hl,hc,by rw [List.length_map,hel],by omega,by show len < _; omega,fun i b hb=> ?_⟩⟩
    rw [List.getElem?_map] at hb
    obtain ⟨y,hy,rfl⟩ := Option.map_eq_some_iff.1 hb
    have hil : i < len := by have := (List.getElem?_eq_some_iff.1 hy).1; omega
    have h2 := (hi i hil).trans hy
    obtain ⟨cs',h3,h4⟩ := Option.bind_eq_some_iff.1 h2
    obtain ⟨_,h5,h6⟩ := World.cells?_some h3
    exact ⟨cs',h5,fun j hj=> by rw [<- add_add']; exact h6 j hj,rdB_of n m e cs' _ hfl h4⟩
  ·rename_i fs ht
   rw [ht] at hfl
   obtain ⟨xs,k,hk,hx,hl,hxl,hf⟩ := DataW.trod_struct ht h
   cases hk
   have hb : Rows.uptoBulk x.1 = (xs.map fun x=> Rows.uptoBulk x.1).sum + 1 := by
    rw [hx]
    simp only [Rows.uptoBulk]
    rw [bulk_all]
   refine ⟨hl,xs.map fun x=> Rows.uptoBulk x.1,by omega,fun i f hfi=> ?_⟩
   have hlt : i < fs.size := (Array.getElem?_eq_some_iff.1 hfi).1
   have hlx : i < xs.length := by rw [hxl]; exact hlt
   have hmem : f ∈ fs.toList := List.mem_of_getElem? (i := i) (by simpa using hfi)
   refine ⟨Rows.uptoBulk (xs[i]).1,by rw [List.getElem?_map,List.getElem?_eq_getElem hlx]; rfl,rdB_of n m f.type _ _ (List.all_eq_true.1 hfl f hmem) ((hf i f hfi).trans (List.getElem?_eq_getElem hlx))⟩
  ·rename_i a b ht
   rw [ht] at hfl
   cases hfl
  ·rename_i a ht
   rw [ht] at hfl
   cases hfl
  ·trivial
theorem rdB_Trod {H : Type} {enc : TypeId × Value -> H} {P : Program} {w : World} {spare : Nat -> Bool} {held : Bool} {t : TypeId} {v : Value} {d : DataW H} {ps : List MemPlace} {m : Nat} (hf : flatT P m t = true)
  (h : DataW.Trod enc P w 0 spare held t v d ps) : ∃ n,RdB P w n t v.cells.toList (Rows.uptoBulk d) := by
 obtain ⟨n,hn⟩ := h
 exact ⟨n,rdB_of n m t _ _ hf hn⟩
theorem RdB.up {P : Program} {w : World} : ∀ {n : Nat} {t : TypeId} {cs : List Value} {b : Nat},RdB P w n t cs b -> RdC P w n t cs
 | 0,t,cs,b,h=> h.elim
 | n + 1,t,cs,b,h=> by
  unfold RdB at h
  unfold RdC
  split
  ·rename_i k ht; rw [ht] at h; exact h
  ·rename_i ht; rw [ht] at h; exact h
  ·rename_i ht
   rw [ht] at h
   obtain ⟨s,h1,h2,_⟩ := h
   exact ⟨s,h1,h2⟩
  ·rename_i e ht
   rw [ht] at h
   obtain ⟨s,h1,h2⟩ := h
   refine ⟨s,h1,?_⟩
   rcases h2 with h2 | ⟨a,bs,h2,h3,h4,h5,_,_,h6⟩
   ·exact .inl h2
   ·refine .inr ⟨a,h2,h3,h4,fun i hi=> ?_⟩
    obtain ⟨cs',k1,k2,k3⟩ := h6 i bs[i] (List.getElem?_eq_getElem (by omega))
    exact ⟨cs',k1,k2,k3.up⟩
  ·rename_i fs ht
   rw [ht] at h
   obtain ⟨h1,bs,_,h2⟩ := h
   refine ⟨h1,fun i f hf=> ?_⟩
   obtain ⟨x,_,h3⟩ := h2 i f hf
   exact h3.up
  ·rename_i ht; rw [ht] at h; exact h.elim
  ·rename_i ht; rw [ht] at h; exact h.elim
  ·trivial
section
variable {P : Program} {w : World} {n b : Nat} {t : TypeId} {cs : List Value}
theorem rdB_string (hu : P.underlying t = some .string) (h : RdB P w n t cs b) : ∃ s : ByteArray,cs = [.string s] /\ s.size <= maxLen /\ s.size < b := by
 cases n with
 | zero=> exact h.elim
 | succ n=> unfold RdB at h; rw [hu] at h; exact h
theorem rdB_slice {e : TypeId} (hu : P.underlying t = some (.slice e)) (h : RdB P w n t cs b) : ∃ (s : Slc) (m : Nat),cs = [Slc.v s] /\ (s = ⟨none,0,0⟩ \/ ∃ (a : Addr) (bs : List Nat),s.p = some a /\ s.len <= s.cap /\ s.cap <= maxLen /\ bs.length = s.len /\ bs.sum < b /\ s.len < b /\
  ∀ i x,bs[i]? = some x -> ∃ cs',cs'.length = P.cellsOf e /\ (∀ j,j < P.cellsOf e -> w.cell? (a.add (i * P.cellsOf e + j)) = cs'[j]?) /\ RdB P w m e cs' x) := by
 cases n with
 | zero=> exact h.elim
 | succ n=>
  unfold RdB at h
  rw [hu] at h
  obtain ⟨s,h1,h2⟩ := h
  exact ⟨s,n,h1,h2⟩
theorem rdB_struct {L : List (Nat × TypeId)} (hL : fieldsAt P t = some L) (h : RdB P w n t cs b) : cs.length = P.cellsOf t /\ ∃ (m : Nat) (bs : List Nat),bs.sum < b /\ ∀ (i o : Nat) (u : TypeId),L[i]? = some (o,u) -> ∃ x,bs[i]? = some x /\ RdB P w m u ((cs.drop o).take (P.cellsOf u)) x := by
 cases n with
 | zero=> exact h.elim
 | succ n=>
  unfold RdB at h
  unfold fieldsAt at hL
  split at hL
  ·rename_i fs hu
   rw [hu] at h
   cases hL
   obtain ⟨h1,bs,h2,h3⟩ := h
   refine ⟨h1,n,bs,h2,fun i o u hi=> ?_⟩
   rw [List.getElem?_map] at hi
   obtain ⟨f,g1,g2⟩ := Option.map_eq_some_iff.1 hi
   cases g2
   exact h3 i f (by simpa using g1)
  ·cases hL
end
theorem sum_get_le : ∀ {bs : List Nat} {i x : Nat},bs[i]? = some x -> x <= bs.sum
 | [],i,x,h=> by simp at h
 | y :: bs,0,x,h=> by simp at h; subst h; simp
 | y :: bs,i + 1,x,h=> by
  have := sum_get_le (bs := bs) (i := i) (x := x) (by simpa using h)
  simp only [List.sum_cons]
  omega
end Sh
end Go.Proofs.YtcblpehnkogfdaaGreatDoor

/- Great structs in memory: read and written as one. Conditions: none. -/
namespace Go.Proofs.YtcblpehnkogfdaaGreatDoor
namespace Sh
theorem Sig.cells_len : ∀ (ts : List Ty1) (x : Sig ts),(Sig.cells ts x).length = ts.length
 | [],_=> rfl
 | [t],_=> rfl
 | t :: u :: r,x=> by
  show (_ :: Sig.cells (u :: r) x.2).length = _
  rw [List.length_cons,Sig.cells_len (u :: r) x.2]
  rfl
theorem LdT.mk {w : World} {b o : Nat} : ∀ (ts : List Ty1) (i : Nat) (x : Sig ts) (K : Sig ts -> Prop),(∀ j v,(Sig.cells ts x)[j]? = some v -> w.cell? ⟨b,o + i + j,none⟩ = some v) -> K x -> LdT w ⟨b,o,none⟩ i ts K
 | [],_,_,_,_,k=> k
 | [t],i,x,K,h,k=> by
  have h0 := h 0 (t.v x) rfl
  refine Ld.mk (x := x) ?_ k
  rw [add_lit]
  exact h0
 | t :: u :: r,i,x,K,h,k=> by
  have h0 := h 0 (t.v x.1) rfl
  refine Ld.mk (x := x.1) ?_ (LdT.mk (u :: r) (i + 1) x.2 (fun y=> K (x.1,y)) (fun j v hj=> ?_) k)
  ·rw [add_lit]
   exact h0
  ·have := h (j + 1) v hj
   rw [show o + (i + 1) + j = o + i + (j + 1) by omega]
   exact this
theorem LdST.mk {S : World -> Prop} {b o : Nat} : ∀ (ts : List Ty1) (i : Nat) (x : Sig ts) (K : Sig ts -> Prop),(∀ w,S w -> ∀ j v,(Sig.cells ts x)[j]? = some v -> w.cell? ⟨b,o + i + j,none⟩ = some v) -> K x -> LdST S ⟨b,o,none⟩ i ts K
 | [],_,_,_,_,k=> k
 | [t],i,x,K,h,k=> ⟨x,fun w hw=> by rw [add_lit]; exact h w hw 0 (t.v x) rfl,k⟩
 | t :: u :: r,i,x,K,h,k=> ⟨x.1,fun w hw=> by rw [add_lit]; exact h w hw 0 (t.v x.1) rfl,LdST.mk (u :: r) (i + 1) x.2 (fun y=> K (x.1,y)) (fun w hw j v hj=> by
   have := h w hw (j + 1) v hj
   rw [show o + (i + 1) + j = o + i + (j + 1) by omega]
   exact this) k⟩
theorem cells_blk {w : World} {b : Nat} {pre post : List Value} {t : TypeId} {ts : List Ty1} {x : Sig ts} (h : Blk w b (pre ++ (Sig.cells ts x ++ post)).toArray t) {j : Nat} {v : Value} (hj : (Sig.cells ts x)[j]? = some v) : w.cell? ⟨b,pre.length + j,none⟩ = some v := by
 have hl := (List.getElem?_eq_some_iff.1 hj).1
 rw [h.cell,List.getElem?_toArray,List.getElem?_append_right (by omega),Nat.add_sub_cancel_left,List.getElem?_append_left hl]
 exact hj
theorem LdT.blk {w : World} {b o : Nat} {pre post : List Value} {t : TypeId} {ts : List Ty1} {x : Sig ts} {K : Sig ts -> Prop} (h : Blk w b (pre ++ (Sig.cells ts x ++ post)).toArray t) (ho : pre.length = o) (k : K x) : LdT w ⟨b,o,none⟩ 0 ts K :=
 LdT.mk ts 0 x K (fun j v hj=> by rw [<- ho]; exact cells_blk h hj) k
theorem LdST.blk {S : World -> Prop} {b o : Nat} {pre post : List Value} {t : TypeId} {ts : List Ty1} {x : Sig ts} {K : Sig ts -> Prop} (h : ∀ w,S w -> Blk w b (pre ++ (Sig.cells ts x ++ post)).toArray t) (ho : pre.length = o) (k : K x) : LdST S ⟨b,o,none⟩ 0 ts K :=
 LdST.mk ts 0 x K (fun w hw j v hj=> by rw [<- ho]; exact cells_blk (h w hw) hj) k
theorem StT.of {b o : Nat} : ∀ (ts : List Ty1) (i : Nat) (x : Sig ts) (w : World) (K : World -> Prop),StL b (o + i) (Sig.cells ts x) w K -> StT ⟨b,o,none⟩ i ts x w K
 | [],_,_,_,_,h=> h
 | [t],i,x,w,K,h=> by
  show St w ((⟨b,o,none⟩ : Addr).add i) (t.v x) K
  rw [add_lit]
  exact h
 | t :: u :: r,i,x,w,K,h=> by
  show St w ((⟨b,o,none⟩ : Addr).add i) (t.v x.1) fun w'=> StT ⟨b,o,none⟩ (i + 1) (u :: r) x.2 w' K
  rw [add_lit]
  obtain ⟨h1,h2⟩ := h
  exact ⟨h1,StT.of (u :: r) (i + 1) x.2 _ K h2⟩
theorem Hn.stT {w0 w : World} {L : List (Nat × List Value × TypeId)} {b o : Nat} {t : TypeId} {i : Nat} {pre zs post : List Value} {ts : List Ty1} {x : Sig ts} {K : World -> Prop} (h : Hn w0 w L) (hi : L[i]? = some (b,pre ++ (zs ++ post),t)) (ho : pre.length = o) (hz : zs.length = ts.length)
  (k : ∀ w2,Hn w0 w2 (L.set i (b,pre ++ (Sig.cells ts x ++ post),t)) -> K w2) : StT ⟨b,o,none⟩ 0 ts x w K :=
 StT.of ts 0 x w K (Hn.stL (Sig.cells ts x) zs pre post (o + 0) w h hi ho (by rw [Sig.cells_len]; exact hz) k)
theorem Hn.ldT {w0 w : World} {L : List (Nat × List Value × TypeId)} {b o : Nat} {t : TypeId} {i : Nat} {pre post : List Value} {ts : List Ty1} {x : Sig ts} {K : Sig ts -> Prop} (h : Hn w0 w L) (hi : L[i]? = some (b,pre ++ (Sig.cells ts x ++ post),t)) (ho : pre.length = o) (k : K x) : LdT w ⟨b,o,none⟩ 0 ts K :=
 LdT.blk (h.get i hi) ho k
theorem stL_blk {b : Nat} {t : TypeId} {K : World -> Prop} : ∀ (vs zs pre post : List Value) (o : Nat) (w : World),Blk w b (pre ++ (zs ++ post)).toArray t -> pre.length = o -> zs.length = vs.length -> (∀ w2,Blk w2 b (pre ++ (vs ++ post)).toArray t -> Ext (· = b) w w2 -> K w2) -> StL b o vs w K
 | [],zs,pre,post,o,w,h,ho,hz,k=> by
  have : zs = [] := List.eq_nil_of_length_eq_zero hz
  subst this
  exact k w h (Ext.refl _ _)
 | v :: vs,[],pre,post,o,w,h,ho,hz,k=> by cases hz
 | v :: vs,z :: zs,pre,post,o,w,h,ho,hz,k=> by
  refine ⟨h.can (by rw [List.size_toArray,<- ho]; simp),?_⟩
  have h2 := h.set o v
  have e : (pre ++ (z :: zs ++ post)).set o v = (pre ++ [v]) ++ (zs ++ post) := by
   rw [<- ho,List.cons_append,set_at]
   simp
  rw [List.setIfInBounds_toArray,e] at h2
  refine stL_blk vs zs (pre ++ [v]) post (o + 1) _ h2 (by simp [ho]) (by simpa using hz) fun w3 h3 e3=> k w3 (by simpa using h3) (((Ext.refl (· = b) w).set (.inl rfl) v).tr e3)
theorem StT.blk {w : World} {b o : Nat} {t : TypeId} {pre zs post : List Value} {ts : List Ty1} {x : Sig ts} {K : World -> Prop} (h : Blk w b (pre ++ (zs ++ post)).toArray t) (ho : pre.length = o) (hz : zs.length = ts.length)
  (k : ∀ w2,Blk w2 b (pre ++ (Sig.cells ts x ++ post)).toArray t -> Ext (· = b) w w2 -> K w2) : StT ⟨b,o,none⟩ 0 ts x w K :=
 StT.of ts 0 x w K (stL_blk (Sig.cells ts x) zs pre post (o + 0) w h ho (by rw [Sig.cells_len]; exact hz) k)
end Sh
end Go.Proofs.YtcblpehnkogfdaaGreatDoor

/- General lemmas: rows of equal elements, readings, branches. No condition. -/
namespace Go.Proofs.YtcblpehnkogfdaaGreatDoor
namespace Sh
set_option maxRecDepth 4000
set_option maxRecDepth 4000
set_option maxHeartbeats 1000000
theorem Br.t {b : Bool} {A B : Prop} (h : b = true) (h1 : A) : Br b A B := by rw [h]; exact h1
theorem Br.f {b : Bool} {A B : Prop} (h : b = false) (h1 : B) : Br b A B := by rw [h]; exact h1
theorem eqL (a b : ByteArray) : (a.toList == b.toList) = decide (a.data.toList = b.data.toList) := by
 rw [ByteArray.toList_eq,ByteArray.toList_eq]
 by_cases h : a.data.toList = b.data.toList
 ·rw [decide_eq_true h]
  simpa using h
 ·rw [decide_eq_false h]
  simpa using h
set_option maxRecDepth 4000
theorem rdB_elems {P : Program} {w : World} {n k b : Nat} {t e : TypeId} {cs : List Value} {α : Type} [Inhabited α] {Q : α -> List Value -> Nat -> Prop} (hu : P.underlying t = some (.slice e)) (hk : P.cellsOf e = k) (h : RdB P w n t cs b)
  (hQ : ∀ m cs' x,cs'.length = k -> RdB P w m e cs' x -> ∃ q,Q q cs' x) : ∃ (s : Slc) (L : List α) (bs : List Nat),cs = [Slc.v s] /\ s.len = L.length /\ L.length <= b /\ bs.length = L.length /\ bs.sum <= b /\ ∀ (i : Nat) (q : α),L[i]? = some q -> ∃ a cs' x,bs[i]? = some x /\ s.p = some a /\ cs'.length = k /\ (∀ j,j < k -> w.cell? (a.add (i * k + j)) = cs'[j]?) /\ Q q cs' x := by
 obtain ⟨s,m,h1,h2⟩ := rdB_slice hu h
 rcases h2 with rfl | ⟨a,bs,hp,g1,g2,g3,g4,g5,hc⟩
 ·exact ⟨_,[],[],h1,rfl,Nat.zero_le _,rfl,Nat.zero_le _,fun i q hi=> by cases hi⟩
 ·rw [hk] at hc
  have h' : ∀ i,∃ q : α,∀ x,bs[i]? = some x -> ∃ cs',cs'.length = k /\ (∀ j,j < k -> w.cell? (a.add (i * k + j)) = cs'[j]?) /\ Q q cs' x := fun i=> by
   cases hx : bs[i]? with
   | none=> exact ⟨default,fun x h=> by cases h⟩
   | some x=>
    obtain ⟨cs',hl,hc,hr⟩ := hc i x hx
    obtain ⟨q,hq⟩ := hQ m cs' x hl hr
    exact ⟨q,fun y hy=> by cases hy; exact ⟨cs',hl,hc,hq⟩⟩
  refine ⟨s,(List.range s.len).map fun i=> Classical.choose (h' i),bs,h1,by simp,by simp; omega,by simp [g3],by omega,fun i q hi=> ?_⟩
  rw [List.getElem?_map] at hi
  obtain ⟨i',hi1,rfl⟩ := Option.map_eq_some_iff.1 hi
  obtain ⟨hlt,rfl⟩ := List.getElem?_eq_some_iff.1 hi1
  simp only [List.length_range] at hlt
  simp only [List.getElem_range]
  have hb : bs[i]? = some bs[i] := List.getElem?_eq_getElem (by omega)
  obtain ⟨cs',c0,c1,c2⟩ := Classical.choose_spec (h' i) _ hb
  exact ⟨a,cs',_,hb,hp,c0,c1,c2⟩
theorem flat_at {α : Type} {f : α -> List Value} {k : Nat} (hk : ∀ x,(f x).length = k) : ∀ (L : List α) (i j : Nat) (x : α),L[i]? = some x -> j < k -> (L.flatMap f)[i * k + j]? = (f x)[j]?
 | [],i,j,x,h,_=> by simp at h
 | y :: L,0,j,x,h,hj=> by
  simp at h
  subst h
  rw [List.flatMap_cons,Nat.zero_mul,Nat.zero_add,List.getElem?_append_left (by rw [hk]; exact hj)]
 | y :: L,i + 1,j,x,h,hj=> by
  rw [List.flatMap_cons,List.getElem?_append_right (by rw [hk,Nat.add_mul]; omega),hk,show (i + 1) * k + j - k = i * k + j by rw [Nat.add_mul]; omega]
  exact flat_at hk L i j x (by simpa using h) hj
theorem flat_len {α : Type} {f : α -> List Value} {k : Nat} (hk : ∀ x,(f x).length = k) : ∀ L : List α,(L.flatMap f).length = L.length * k
 | []=> by simp
 | y :: L=> by rw [List.flatMap_cons,List.length_append,hk,flat_len hk L,List.length_cons,Nat.add_mul]; omega
theorem flat_split {α : Type} {f : α -> List Value} {k : Nat} (hk : ∀ x,(f x).length = k) (h0 : 0 < k) {L : List α} {j : Nat} (hj : j < L.length * k) : ∃ x,L[j / k]? = some x /\ (L.flatMap f)[j]? = (f x)[j % k]? := by
 have hi : j / k < L.length := (Nat.div_lt_iff_lt_mul h0).2 hj
 refine ⟨L[j / k],List.getElem?_eq_getElem hi,?_⟩
 have := flat_at hk L (j / k) (j % k) _ (List.getElem?_eq_getElem hi) (Nat.mod_lt _ h0)
 rw [Nat.mul_comm,Nat.div_add_mod] at this
 exact this
theorem VRow.make {w : World} {s : Slc} {α : Type} {f : α -> List Value} {k : Nat} {L : List α} (hk : ∀ x,(f x).length = k) (h0 : 0 < k) (hl : s.len = L.length) (h : ∀ (i : Nat) (x : α),L[i]? = some x -> ∃ a,s.p = some a /\ ∀ j,j < k -> w.cell? (a.add (i * k + j)) = (f x)[j]?) : VRow w s k (L.flatMap f) := by
 refine ⟨by rw [flat_len hk,hl],fun j v hj=> ?_⟩
 have hlt : j < L.length * k := by rw [<- flat_len hk]; exact (List.getElem?_eq_some_iff.1 hj).1
 obtain ⟨x,hx,e⟩ := flat_split hk h0 hlt
 obtain ⟨a,ha,hc⟩ := h _ x hx
 refine ⟨a,ha,?_⟩
 have := hc (j % k) (Nat.mod_lt _ h0)
 rw [show j / k * k + j % k = j by rw [Nat.mul_comm]; exact Nat.div_add_mod j k] at this
 rw [this,<- e,hj]
theorem VRow.elem {w : World} {s : Slc} {α : Type} {f : α -> List Value} {k : Nat} {L : List α} (hk : ∀ x,(f x).length = k) (h : VRow w s k (L.flatMap f)) {i : Nat} {x : α} (hi : L[i]? = some x) (h0 : 0 < k) : ∃ a,s.p = some a /\ ∀ j v,(f x)[j]? = some v -> w.cell? (a.add (i * k + j)) = some v := by
 have hne : (f x)[0]? ≠ none := by rw [ne_eq,List.getElem?_eq_none_iff,hk]; omega
 obtain ⟨v0,hv0⟩ := Option.ne_none_iff_exists'.1 hne
 have e0 := flat_at hk L i 0 x hi h0
 obtain ⟨a,ha,_⟩ := h.2 (i * k + 0) v0 (by rw [e0,hv0])
 refine ⟨a,ha,fun j v hj=> ?_⟩
 have hjk : j < k := by rw [<- hk x]; exact (List.getElem?_eq_some_iff.1 hj).1
 obtain ⟨a',ha',hc⟩ := h.2 (i * k + j) v (by rw [flat_at hk L i j x hi hjk,hj])
 rw [ha] at ha'
 cases ha'
 exact hc
theorem VRow.count {w : World} {s : Slc} {α : Type} {f : α -> List Value} {k : Nat} {L : List α} (hk : ∀ x,(f x).length = k) (h0 : 0 < k) (h : VRow w s k (L.flatMap f)) : s.len = L.length := by
 have := h.1
 rw [flat_len hk] at this
 exact (Nat.eq_of_mul_eq_mul_right h0 this).symm
set_option maxRecDepth 4000
set_option maxHeartbeats 2000000
theorem LdT.any {w : World} {a : Addr} : ∀ (ts : List Ty1) (i : Nat) (x : Sig ts) (K : Sig ts -> Prop),(∀ j v,(Sig.cells ts x)[j]? = some v -> w.cell? (a.add (i + j)) = some v) -> K x -> LdT w a i ts K
 | [],_,_,_,_,k=> k
 | [t],i,x,K,h,k=> Ld.mk (x := x) (h 0 (t.v x) rfl) k
 | t :: u :: r,i,x,K,h,k=> Ld.mk (x := x.1) (h 0 (t.v x.1) rfl) (LdT.any (u :: r) (i + 1) x.2 (fun y=> K (x.1,y)) (fun j v hj=> by
   have := h (j + 1) v hj
   rw [show i + 1 + j = i + (j + 1) by omega]
   exact this) k)
set_option maxRecDepth 4000
set_option maxHeartbeats 2000000
theorem ext_new {F : Nat -> Prop} {a b c : World} (h : Ext (fun _=> False) a b) (k : Ext F b c) (hF : ∀ j,F j -> a.heap.size <= j) : Ext (fun _=> False) a c :=
 h.trans k (fun _ h=> h) fun j hj e=> by have := hF j e; omega
theorem blk_ty {w : World} {b : Nat} {cs cs' : Array Value} {t t' : TypeId} (h : Blk w b cs t) (k : Blk w b cs' t') : t = t' := by
 unfold Blk at h k
 rw [h] at k
 cases k
 rfl
theorem own_blk {w : World} {s : Slc} {e : TypeId} {k : Nat} {xs : List Value} (h : Row w s e k xs) {j : Nat} (hj : s.own j) : ∃ cs,Blk w j cs e := by
 obtain ⟨a,ha,hb⟩ := hj
 rcases h.2 with rfl | ⟨g,cur,hp,hg,_⟩
 ·cases ha
 ·rw [hp] at ha
  cases ha
  exact ⟨cur,hb ▸ hg⟩
theorem no_own (j : Nat) : ¬ Slc.own ⟨none,0,0⟩ j := fun ⟨a,ha,_⟩=> by cases ha
set_option maxRecDepth 4000
set_option maxHeartbeats 2000000
theorem ldS_mk {α : Type} {S : World -> Prop} {V : α -> Value} {K : α -> Prop} {x : α} {a : Addr} (h : ∀ w,S w -> w.cell? a = some (V x)) (k : K x) : LdS S a V K := ⟨x,h,k⟩
theorem take_succ {α : Type} {l : List α} {i : Nat} (h : i < l.length) : l.take (i + 1) = l.take i ++ [l[i]] := by rw [List.take_add_one,List.getElem?_eq_getElem h]; rfl
theorem ldS_ext {α : Type} {w0 : World} {V : α -> Value} {K : α -> Prop} {x : α} {a : Addr} (h : w0.cell? a = some (V x)) (k : K x) : LdS (Ext (fun _=> False) w0) a V K := ldS_mk (fun _ e=> e.cell_same h) k
theorem LdST.at {S : World -> Prop} {a : Addr} : ∀ (ts : List Ty1) (i : Nat) (x : Sig ts) (K : Sig ts -> Prop),(∀ w,S w -> ∀ j v,(Sig.cells ts x)[j]? = some v -> w.cell? (a.add (i + j)) = some v) -> K x -> LdST S a i ts K
 | [],i,x,K,h,hk=> hk
 | [t],i,x,K,h,hk=> ldS_mk (x := x) (fun w hw=> by have := h w hw 0 _ rfl; simpa using this) hk
 | t :: u :: r,i,x,K,h,hk=> ldS_mk (x := x.1) (fun w hw=> by have := h w hw 0 _ rfl; simpa using this) (LdST.at (u :: r) (i + 1) x.2 (fun y=> K (x.1,y)) (fun w hw j v hj=> by
   have := h w hw (j + 1) v (by simpa [Sig.cells] using hj)
   rw [show i + 1 + j = i + (j + 1) by omega]
   exact this) hk)
theorem row_st {w : World} {s : Slc} {e : TypeId} {k : Nat} {A B : List Value} {j : Nat} {v : Value} {K : World -> Prop} (h : Row w s e k (A ++ B)) (hj : j < B.length) (kk : ∀ w',Row w' s e k (A ++ B.set j v) -> Ext s.own w w' -> K w') : ∃ g,s.p = some ⟨g,0,none⟩ /\ St w ⟨g,A.length + j,none⟩ v K := by
 have hl := h.1
 rw [List.length_append] at hl
 rcases h.2 with rfl | ⟨g,cur,hp,hg,hle,hsz,htk⟩
 ·simp only at hl
  omega
 ·refine ⟨g,hp,?_⟩
  have hlt : A.length + j < cur.size := by
   have := congrArg List.length htk
   rw [List.length_take,Array.length_toList,List.length_append] at this
   omega
  unfold St
  refine ⟨hg.can hlt,kk _ ⟨by rw [List.length_append,List.length_set]; exact hl,.inr ⟨g,_,hp,hg.set _ _,hle,by simpa using hsz,?_⟩⟩ ((Ext.refl s.own w).set (.inl ⟨_,hp,rfl⟩) _)⟩
  rw [Array.toList_setIfInBounds,List.take_set,htk,List.set_append_right _ _ (by omega),Nat.add_sub_cancel_left]
theorem itW_ext (w : World) (b : Nat) (s : ByteArray) (p : Nat) : Ext (· = b) w (itW w b s p) :=
 ⟨rfl,rfl,rfl,by simp [itW],fun k hk hn=> by
  unfold itW
  simp only
  rw [Array.getElem?_setIfInBounds]
  rw [if_neg fun e=> hn e.symm]⟩
theorem itW_at {w : World} {b : Nat} {s : ByteArray} {p : Nat} (h : b < w.heap.size) : (itW w b s p).heap[b]? = some (.stringIter s p) := by
 unfold itW
 simp [Array.getElem?_setIfInBounds,h]
theorem u8_wrap (z : Int) : IntKind.u8.wrap z = z % 256 := by
 unfold IntKind.wrap
 simp [IntKind.signed,IntKind.bits]
def ub (z : Int) : UInt8 := UInt8.ofNat (z % 256).toNat
theorem ub_val (z : Int) : ((ub z).toNat : Int) = IntKind.u8.wrap z := by
 rw [u8_wrap]
 unfold ub
 rw [UInt8.toNat_ofNat']
 omega
end Sh
end Go.Proofs.YtcblpehnkogfdaaGreatDoor

/- The kit's contracts at this program, laid in plain words by the kit's program. Conditions: theirs. -/
namespace Go.Proofs
open Go.Shelf
def Tryz.lays137_ren : Go.Shelf.Ren := ⟨fun | 137=> 124 | 217=> 144 | 266=> 155 | n=> n,fun | 9=> 9 | 5=> 5 | 3=> 3 | n=> n,fun | n=> n⟩
theorem Tryz.lays137 : Go.Proofs.Lays.n137 Tryz.prog Tryz.lays137_ren := {
                                      mixed := by kernel_rfl
                                      f137 := Tryz.func124.trans (congrArg some (by kernel_rfl))
                                      f217 := Tryz.func144.trans (congrArg some (by kernel_rfl))
                                      f266 := Tryz.func155.trans (congrArg some (by kernel_rfl))
                                      t3 := Tryz.underlying3
                                      a3 := Tryz.isAgg3
                                      z3 := Tryz.sizeOf3
                                      v3 := Tryz.zeroValue3
                                      t5 := Tryz.underlying5
                                      a5 := Tryz.isAgg5
                                      z5 := Tryz.sizeOf5
                                      v5 := Tryz.zeroValue5
                                      t9 := Tryz.underlying9
                                      a9 := Tryz.isAgg9
                                      z9 := Tryz.sizeOf9
                                      v9 := Tryz.zeroValue9 }
def Tryz.lays157_ren : Go.Shelf.Ren := ⟨fun | 157=> 113 | 229=> 129 | 199=> 130 | 261=> 146 | 311=> 156 | 312=> 157 | n=> n,fun | 9=> 9 | 31=> 32 | 3=> 3 | 5=> 5 | 4=> 4 | 119=> 165 | 0=> 0 | 40=> 175 | 152=> 184 | 21=> 21 | 154=> 186 | 51=> 187 | 141=> 189 | 196=> 198 | 193=> 195 | 198=> 201 | 49=> 199 | 194=> 196 | 201=> 204 | 226=> 211 | 46=> 157 | 227=> 212 | n=> n,fun | 0=> 2 | 6=> 3 | n=> n⟩
theorem Tryz.lays157 : Go.Proofs.Lays.n157 Tryz.prog Tryz.lays157_ren := {
                                      mixed := by kernel_rfl
                                      f157 := Tryz.func113.trans (congrArg some (by kernel_rfl))
                                      f199 := Tryz.func130.trans (congrArg some (by kernel_rfl))
                                      f229 := Tryz.func129.trans (congrArg some (by kernel_rfl))
                                      f261 := Tryz.func146.trans (congrArg some (by kernel_rfl))
                                      f311 := Tryz.func156.trans (congrArg some (by kernel_rfl))
                                      f312 := Tryz.func157.trans (congrArg some (by kernel_rfl))
                                      t0 := Tryz.underlying0
                                      a0 := Tryz.isAgg0
                                      z0 := Tryz.sizeOf0
                                      v0 := Tryz.zeroValue0
                                      t3 := Tryz.underlying3
                                      a3 := Tryz.isAgg3
                                      z3 := Tryz.sizeOf3
                                      v3 := Tryz.zeroValue3
                                      t4 := Tryz.underlying4
                                      a4 := Tryz.isAgg4
                                      z4 := Tryz.sizeOf4
                                      v4 := Tryz.zeroValue4
                                      t5 := Tryz.underlying5
                                      a5 := Tryz.isAgg5
                                      z5 := Tryz.sizeOf5
                                      v5 := Tryz.zeroValue5
                                      t9 := Tryz.underlying9
                                      a9 := Tryz.isAgg9
                                      z9 := Tryz.sizeOf9
                                      v9 := Tryz.zeroValue9
                                      t21 := Tryz.underlying21
                                      a21 := Tryz.isAgg21
                                      z21 := Tryz.sizeOf21
                                      v21 := Tryz.zeroValue21
                                      t31 := Tryz.underlying32
                                      a31 := Tryz.isAgg32
                                      z31 := Tryz.sizeOf32
                                      v31 := Tryz.zeroValue32
                                      t40 := Tryz.underlying175
                                      a40 := Tryz.isAgg175
                                      z40 := Tryz.sizeOf175
                                      v40 := Tryz.zeroValue175
                                      t46 := Tryz.underlying157
                                      a46 := Tryz.isAgg157
                                      z46 := Tryz.sizeOf157
                                      v46 := Tryz.zeroValue157
                                      t49 := Tryz.underlying199
                                      a49 := Tryz.isAgg199
                                      z49 := Tryz.sizeOf199
                                      v49 := Tryz.zeroValue199
                                      t51 := Tryz.underlying187
                                      a51 := Tryz.isAgg187
                                      z51 := Tryz.sizeOf187
                                      v51 := Tryz.zeroValue187
                                      t119 := Tryz.underlying165
                                      a119 := Tryz.isAgg165
                                      z119 := Tryz.sizeOf165
                                      t141 := Tryz.underlying189
                                      a141 := Tryz.isAgg189
                                      z141 := Tryz.sizeOf189
                                      v141 := Tryz.zeroValue189
                                      t152 := Tryz.underlying184
                                      a152 := Tryz.isAgg184
                                      z152 := Tryz.sizeOf184
                                      v152 := Tryz.zeroValue184
                                      t154 := Tryz.underlying186
                                      a154 := Tryz.isAgg186
                                      z154 := Tryz.sizeOf186
                                      v154 := Tryz.zeroValue186
                                      t193 := Tryz.underlying195
                                      a193 := Tryz.isAgg195
                                      z193 := Tryz.sizeOf195
                                      v193 := Tryz.zeroValue195
                                      t194 := Tryz.underlying196
                                      a194 := Tryz.isAgg196
                                      z194 := Tryz.sizeOf196
                                      v194 := Tryz.zeroValue196
                                      t196 := Tryz.underlying198
                                      a196 := Tryz.isAgg198
                                      z196 := Tryz.sizeOf198
                                      v196 := Tryz.zeroValue198
                                      t198 := Tryz.underlying201
                                      a198 := Tryz.isAgg201
                                      z198 := Tryz.sizeOf201
                                      v198 := Tryz.zeroValue201
                                      t201 := Tryz.underlying204
                                      a201 := Tryz.isAgg204
                                      z201 := Tryz.sizeOf204
                                      v201 := Tryz.zeroValue204
                                      t226 := Tryz.underlying211
                                      a226 := Tryz.isAgg211
                                      z226 := Tryz.sizeOf211
                                      v226 := Tryz.zeroValue211
                                      t227 := Tryz.underlying212
                                      a227 := Tryz.isAgg212
                                      z227 := Tryz.sizeOf212
                                      v227 := Tryz.zeroValue212
                                      g0 := by kernel_rfl
                                      g6 := by kernel_rfl }
open Go.RowKit in
theorem Tryz.strings_IndexByte (s : ByteArray) (c : Int) (w : World) :
  Calls Tryz.prog 124 #[.string s,.int .u8 c] w fun e w'=> e = .returned (.int .i64 (Lib.indexByte s.data.toList c.toNat.toUInt8)) /\ w' = w := Any.strings_IndexByte Tryz.lays137 s c w
open Go.RowKit Go.Lib in
theorem Tryz.strings_Fields (s : ByteArray) (w : World) (hs : s.size < 4294967281) (hascii : ∀ (j : Nat) b,s.data.toList[j]? = some b -> b.toNat < 128) (htab : Lib.TabIs Tryz.prog w "strings.asciiSpace" .u8 Lib.asciiSpaceTab) :
  Calls Tryz.prog 113 #[.string s] w fun e w'=>
   e = .returned (.slice (some ⟨w.heap.size,0,none⟩) (Lib.fields s.data.toList).length (Lib.fields s.data.toList).length) /\ w' = w.alloc (.cells ((Lib.fields s.data.toList).map fun l=> Value.string ⟨l.toArray⟩).toArray 9) := Any.strings_Fields Tryz.lays157 (by kernel_rfl) (by kernel_rfl) s w hs hascii htab
end Go.Proofs

/- Fonts: what can be read; whether a font may be. Conditions: sizes, the laid tables. -/
namespace Go.Proofs.YtcblpehnkogfdaaGreatDoor
namespace Fo
open Sh
set_option maxRecDepth 4000
set_option maxHeartbeats 2000000
attribute [local irreducible] Ld St Nw Nn Lt LdS
abbrev FT := TyA34
def mcells (x : Int × ByteArray) : List Value := [.int .i64 x.1,.string x.2]
theorem mcells_len (x : Int × ByteArray) : (mcells x).length = 2 := rfl
def icell (n : Int) : List Value := [.int .i64 n]
theorem icell_len (n : Int) : (icell n).length = 1 := rfl
def scell (s : ByteArray) : List Value := [.string s]
theorem scell_len (s : ByteArray) : (scell s).length = 1 := rfl
def I64 (n : Int) : Prop := -9223372036854775808 <= n /\ n <= 9223372036854775807
structure FoV (w : World) (x : FT) (f : Font) : Prop where
 name : x.1 = f.name
 wide : x.2.1 = f.wide
 first : x.2.2.1 = f.first
 missing : x.2.2.2.2.1 = f.missing
 widths : VRow w x.2.2.2.1 1 (f.widths.flatMap icell)
 names : VRow w x.2.2.2.2.2.1 1 (f.names.flatMap scell)
 maps : VRow w x.2.2.2.2.2.2 2 (f.maps.flatMap mcells)
 ifirst : I64 f.first
 szn : f.name.size <= 1048576
 lw : f.widths.length <= 1048576
 ln : f.names.length <= 1048576
 lm : f.maps.length <= 1048576
 szs : ∀ s ∈ f.names,s.size <= 1048576
 szm : ∀ x ∈ f.maps,x.2.size <= 1048576
theorem FoV.keep {w w' : World} {x : FT} {f : Font} (h : FoV w x f) (he : Ext (fun _=> False) w w') : FoV w' x f := { h with widths := h.widths.keep he,names := h.names.keep he,maps := h.maps.keep he }
theorem ix_none (l : By) : ∀ c : UInt8,decide (Lib.indexByte l c < 0) = !l.contains c := by
 intro c
 induction l with
 | nil=> rfl
 | cons b l ih=>
  have hge := Lib.indexByte_ge l c
  unfold Lib.indexByte
  rw [List.contains_cons]
  by_cases hb : (b == c) = true
  ·rw [if_pos hb]
   have : b = c := by simpa using hb
   subst this
   simp
  ·rw [if_neg hb]
   have hb' : (c == b) = false := by
    cases h : c == b with
    | false=> rfl
    | true=>
     have : c = b := by simpa using h
     subst this
     simp at hb
   rw [hb',Bool.false_or,<- ih]
   by_cases h1 : (Lib.indexByte l c == -1) = true
   ·rw [if_pos h1]
    have : Lib.indexByte l c = -1 := by simpa using h1
    rw [this]
   ·rw [if_neg h1]
    have : Lib.indexByte l c ≠ -1 := by simpa using h1
    rw [decide_eq_false (by omega),decide_eq_false (by omega)]
theorem c_ix (s : ByteArray) (w : World) : C124 s 0 w fun r w1=> r = Lib.indexByte (bl s) 0 /\ w1 = w :=
 (Tryz.strings_IndexByte s 0 w).mono fun e w' h=> ⟨_,h.1,rfl,h.2⟩
theorem c_named (s : ByteArray) (k : Nat) (w : World) : C95 s (k : Int) w fun r w1=> r = named s k /\ w1 = w := by
 refine T95 _ _ _ _ ?_
 unfold S95 named
 refine Br.dec (fun h1=> ?_) fun h1=> ⟨by rw [decide_eq_false (by omega)]; rfl,rfl⟩
 rw [decide_eq_true (show k <= s.size by omega)]
 refine Br.dec (fun h2=> ?_) fun h2=> ⟨by rw [decide_eq_false (by omega)]; rfl,rfl⟩
 rw [decide_eq_true (show s.size <= 127 by omega)]
 refine (c_ix s w).mono ?_
 rintro r w1 ⟨rfl,rfl⟩
 exact ⟨by rw [ix_none]; rfl,rfl⟩
theorem c_bnd (n m : Int) (w : World) : C97 n m w fun r w1=> r = bnd n m /\ w1 = w := by
 refine T97 _ _ _ _ ?_
 unfold S97 bnd
 refine Br.dec (fun h1=> ⟨by rw [decide_eq_true (show 0 <= n by omega)]; rfl,rfl⟩) fun h1=> ⟨by rw [decide_eq_false (by omega)]; rfl,rfl⟩
theorem c_many (b : Bool) (w : World) : C96 b w fun r w1=> r = (if b then 65536 else 256) /\ w1 = w := by
 refine T96 _ _ _ ?_
 unfold S96
 cases b with
 | true=> exact Br.t rfl ⟨rfl,rfl⟩
 | false=> exact Br.f rfl ⟨rfl,rfl⟩
section
variable {w : World} {x : FT} {f : Font}
theorem FoV.wlen (h : FoV w x f) : x.2.2.2.1.len = f.widths.length := VRow.count icell_len (by decide) h.widths
theorem FoV.nlen (h : FoV w x f) : x.2.2.2.2.2.1.len = f.names.length := VRow.count scell_len (by decide) h.names
end
theorem fo_blk (w : World) (x : FT) : Hn w (w.alloc (.cells (Sig.cells LiA34 x).toArray 35)) [(w.heap.size,[.string x.1,.bool x.2.1,.int .i64 x.2.2.1,Slc.v x.2.2.2.1,.int .i64 x.2.2.2.2.1,Slc.v x.2.2.2.2.2.1,Slc.v x.2.2.2.2.2.2],35)] := by
 have h := Hn.push (Hn.start w |>.keep ((Ext.refl (fun _=> False) w).alloc (.cells (Sig.cells LiA34 x).toArray 35))) (Blk.new w (Sig.cells LiA34 x).toArray 35) (Nat.le_refl _) (by simp)
 exact h
theorem all_take {α : Type} {p : α -> Bool} {l : List α} {i : Nat} {c : α} (h : l[i]? = some c) (ht : (l.take i).all p = true) : (l.take (i + 1)).all p = p c := by
 obtain ⟨hl,rfl⟩ := List.getElem?_eq_some_iff.1 h
 rw [take_succ hl,List.all_append,ht]
 simp
theorem all_no {α : Type} {p : α -> Bool} {l : List α} {i : Nat} {c : α} (h : l[i]? = some c) (hc : p c = false) : l.all p = false := by
 cases ha : l.all p with
 | false=> rfl
 | true=>
  have := List.all_eq_true.1 ha c (List.mem_of_getElem? h)
  rw [hc] at this
  cases this
theorem c_may {w : World} {x : FT} {f : Font} (h : FoV w x f) : C59 x w fun r w1=> r = mayF f /\ Ext (fun _=> False) w w1 := by
 refine T59 _ _ _ ?_
 unfold S59
 refine Nw.of ?_
 have H := fo_blk w x
 have hw := h.wlen
 have hn := h.nlen
 have hif := h.ifirst
 have hlw := h.lw
 unfold I64 at hif
 refine H.ld 0 rfl (x := x.2.2.2.1) rfl ?_
 have Hd := H.drew
 have hE := Hd.ext
 have hb := Hd.get 0 rfl
 generalize (w.alloc (.cells (Sig.cells LiA34 x).toArray 35)).drew = wd at *
 generalize w.alloc (.cells (Sig.cells LiA34 x).toArray 35) = wd0 at *
 refine ⟨Ext (fun _=> False) wd,Ext.refl _ _,ldS_ext (x := x.1) (by rw [hb.cell]; rfl) ?_⟩
 refine (c_named x.1 1 wd).mono ?_
 rintro r w1 ⟨rfl,rfl⟩
 rw [h.name]
 refine ⟨Ext (fun _=> False) w1,Ext.refl _ _,?_⟩
 have cl : ∀ {j : Nat} {v : Value},([.string x.1,.bool x.2.1,.int .i64 x.2.2.1,Slc.v x.2.2.2.1,.int .i64 x.2.2.2.2.1,Slc.v x.2.2.2.2.2.1,Slc.v x.2.2.2.2.2.2] : List Value)[j]? = some v -> w1.cell? ((⟨w.heap.size,0,none⟩ : Addr).add j) = some v := fun hj=> by rw [add_lit,Nat.zero_add,hb.cell]; simpa using hj
 unfold mayF
 cases h1 : named f.name 1 with
 | false=> exact Br.t rfl ⟨rfl,hE⟩
 | true=>
 refine Br.f rfl (ldS_ext (x := x.2.2.1) (cl rfl) ?_)
 rw [h.first]
 refine Br.dec (fun h2=> ⟨by rw [decide_eq_false (show ¬ 0 <= f.first by omega)]; rfl,hE⟩) fun h2=> ?_
 rw [decide_eq_true (show 0 <= f.first by omega),hw]
 refine Br.dec (fun h3=> ⟨by rw [decide_eq_false (show ¬ f.widths.length <= 4096 by omega)]; rfl,hE⟩) fun h3=> ?_
 rw [decide_eq_true (show f.widths.length <= 4096 by omega)]
 refine ldS_ext (x := x.2.2.1) (cl rfl) (ldS_ext (x := x.2.1) (cl rfl) ?_)
 rw [h.first,h.wide]
 refine (c_many f.wide w1).mono ?_
 rintro r w2 ⟨rfl,rfl⟩
 refine ⟨Ext.refl _ _,?_⟩
 have hm : (if f.wide then (65536 : Int) else 256) = many f := rfl
 have hm2 : 256 <= many f /\ many f <= 65536 := by unfold many; split <;> omega
 rw [hm,i64_id (by omega)]
 refine Br.dec (fun h4=> ⟨by rw [decide_eq_false (show ¬ f.first <= many f - (f.widths.length : Int) by omega)]; rfl,hE⟩) fun h4=> ?_
 rw [decide_eq_true (show f.first <= many f - (f.widths.length : Int) by omega)]
 refine ldS_ext (x := x.2.2.2.2.1) (cl rfl) ?_
 rw [h.missing]
 refine (c_bnd f.missing 100000 w2).mono ?_
 rintro r w3 ⟨rfl,rfl⟩
 cases h5 : bnd f.missing 100000 with
 | false=> exact Br.t rfl ⟨rfl,hE⟩
 | true=>
 refine Br.f rfl (Ld.mk (x := x.2.2.2.1) (cl rfl) ?_)
 have h0 := h
 refine ⟨fun m st w1=> ∃ i : Nat,st = (i : Int) /\ i <= f.widths.length /\ m = f.widths.length - i /\ (f.widths.take i).all (fun n=> bnd n 100000) = true /\ w1 = w3,f.widths.length,⟨0,rfl,Nat.zero_le _,rfl,rfl,rfl⟩,?_⟩
 rintro m st w40 ⟨i,rfl,hi,rfl,ht,rfl⟩
 unfold S59L2
 rw [hw]
 refine Br.dec (fun q=> ?_) fun q=> ?_
 ·have hil : i < f.widths.length := by omega
  have gi : f.widths[i]? = some f.widths[i] := List.getElem?_eq_getElem hil
  obtain ⟨a,ha,hc⟩ := VRow.elem icell_len (h.widths.keep hE) gi (by decide)
  have hat := all_take gi ht
  have hno := all_no (p := fun n=> bnd n 100000) gi
  generalize f.widths[i] = n at *
  rw [ha]
  refine ⟨by omega,by omega,Nn.of (Ld.mk (x := n) (by rw [Int.toNat_natCast]; have := hc 0 _ rfl; simpa using this) ?_)⟩
  refine (c_bnd n 100000 w40).mono ?_
  rintro r w45 ⟨rfl,rfl⟩
  cases hb1 : bnd n 100000 with
  | false=> exact Br.t rfl ⟨by rw [hno hb1]; rfl,hE⟩
  | true=> exact Br.f rfl ⟨f.widths.length - (i + 1),by omega,i + 1,by rw [i64_id (by omega)]; rfl,by omega,rfl,by rw [hat,hb1],rfl⟩
 ·have : i = f.widths.length := by omega
  subst this
  rw [List.take_length] at ht
  rw [ht]
  have hnl := h.ln
  have go : ((decide (f.names = []) || (!f.wide && decide (f.names.length = 256))) = true) -> S59J1 w (fun r w1=> r = (true && true && true && true && true && true && (decide (f.names = []) || !f.wide && decide (f.names.length = 256)) && f.names.all fun s=> named s 0) /\ Ext (fun _=> False) w w1) () w40 := fun hn1=> by
   unfold S59J1
   refine Ld.mk (x := x.2.2.2.2.2.1) (cl rfl) ?_
   rw [hn1]
   refine ⟨fun m st w1=> ∃ i : Nat,st = (i : Int) /\ i <= f.names.length /\ m = f.names.length - i /\ (f.names.take i).all (fun s=> named s 0) = true /\ w1 = w40,f.names.length,⟨0,rfl,Nat.zero_le _,rfl,rfl,rfl⟩,?_⟩
   rintro m st w53 ⟨i,rfl,hi,rfl,ht,rfl⟩
   unfold S59L1
   rw [hn]
   refine Br.dec (fun q=> ?_) fun q=> ?_
   ·have hil : i < f.names.length := by omega
    have gi : f.names[i]? = some f.names[i] := List.getElem?_eq_getElem hil
    obtain ⟨a,ha,hc⟩ := VRow.elem scell_len (h.names.keep hE) gi (by decide)
    have hat := all_take gi ht
    have hno := all_no (p := fun s=> named s 0) gi
    generalize f.names[i] = n at *
    rw [ha]
    refine ⟨by omega,by omega,Nn.of (Ld.mk (x := n) (by rw [Int.toNat_natCast]; have := hc 0 _ rfl; simpa using this) ?_)⟩
    refine (c_named n 0 w53).mono ?_
    rintro r w45 ⟨rfl,rfl⟩
    cases hb1 : named n 0 with
    | false=> exact Br.t rfl ⟨by rw [hno hb1]; rfl,hE⟩
    | true=> exact Br.f rfl ⟨f.names.length - (i + 1),by omega,i + 1,by rw [i64_id (by omega)]; rfl,by omega,rfl,by rw [hat,hb1],rfl⟩
   ·have : i = f.names.length := by omega
    subst this
    rw [List.take_length] at ht
    exact ⟨by rw [ht]; rfl,hE⟩
  refine ⟨fun _ w'=> w' = w40 /\ (decide (f.names = []) || (!f.wide && decide (f.names.length = 256))) = true,fun s w' hh=> ?_,?_⟩
  ·obtain ⟨rfl,hh⟩ := hh
   exact go hh
  ·refine Ld.mk (x := x.2.2.2.2.2.1) (cl rfl) ?_
   rw [hn]
   refine Br.ne (fun k1=> ?_) fun k1=> ⟨rfl,?_⟩
   ·have hne : f.names ≠ [] := fun e=> k1 (by rw [e]; rfl)
    rw [decide_eq_false hne]
    refine Ld.mk (x := x.2.1) (cl rfl) ?_
    rw [h.wide]
    cases hwd : f.wide with
    | true=> exact Br.t rfl ⟨rfl,hE⟩
    | false=>
     refine Br.f rfl (Ld.mk (x := x.2.2.2.2.2.1) (cl rfl) ?_)
     rw [hn]
     refine Br.ne (fun k2=> ⟨by rw [decide_eq_false (show ¬ f.names.length = 256 by omega)]; rfl,hE⟩) fun k2=> ⟨rfl,?_⟩
     rw [decide_eq_true (show f.names.length = 256 by omega)]
     rfl
   ·have : f.names = [] := List.length_eq_zero_iff.1 (by omega)
    rw [decide_eq_true this]
    rfl
end Fo
end Go.Proofs.YtcblpehnkogfdaaGreatDoor

/- Whether a string is valid: the kit's contract of the library's function, laid; the tables that it reads. Conditions: theirs. -/
namespace Go.Proofs
open Go.Shelf
def Tryz.lays196_ren : Go.Shelf.Ren := ⟨fun | 196=> 98 | 259=> 125 | n=> n,fun | 3=> 3 | 4=> 4 | 5=> 5 | 9=> 9 | 12=> 12 | 46=> 157 | 53=> 173 | 119=> 165 | 138=> 167 | 139=> 168 | n=> n,fun | 3=> 0 | 4=> 1 | n=> n⟩
set_option maxRecDepth 100000 in
theorem Tryz.lays196 : Go.Proofs.Lays.n196 Tryz.prog Tryz.lays196_ren := {
                                      mixed := by kernel_rfl
                                      f196 := by kernel_rfl
                                      f259 := by kernel_rfl
                                      t0 := Tryz.underlying0
                                      a0 := Tryz.isAgg0
                                      z0 := Tryz.sizeOf0
                                      v0 := Tryz.zeroValue0
                                      t3 := Tryz.underlying3
                                      a3 := Tryz.isAgg3
                                      z3 := Tryz.sizeOf3
                                      v3 := Tryz.zeroValue3
                                      t4 := Tryz.underlying4
                                      a4 := Tryz.isAgg4
                                      z4 := Tryz.sizeOf4
                                      v4 := Tryz.zeroValue4
                                      t5 := Tryz.underlying5
                                      a5 := Tryz.isAgg5
                                      z5 := Tryz.sizeOf5
                                      v5 := Tryz.zeroValue5
                                      t9 := Tryz.underlying9
                                      a9 := Tryz.isAgg9
                                      z9 := Tryz.sizeOf9
                                      v9 := Tryz.zeroValue9
                                      t12 := Tryz.underlying12
                                      a12 := Tryz.isAgg12
                                      z12 := Tryz.sizeOf12
                                      v12 := Tryz.zeroValue12
                                      t46 := Tryz.underlying157
                                      a46 := Tryz.isAgg157
                                      z46 := Tryz.sizeOf157
                                      v46 := Tryz.zeroValue157
                                      t53 := Tryz.underlying173
                                      a53 := Tryz.isAgg173
                                      z53 := Tryz.sizeOf173
                                      v53 := Tryz.zeroValue173
                                      t119 := Tryz.underlying165
                                      a119 := Tryz.isAgg165
                                      z119 := Tryz.sizeOf165
                                      t138 := Tryz.underlying167
                                      a138 := Tryz.isAgg167
                                      z138 := Tryz.sizeOf167
                                      v138 := Tryz.zeroValue167
                                      t139 := Tryz.underlying168
                                      a139 := Tryz.isAgg168
                                      z139 := Tryz.sizeOf168
                                      v139 := Tryz.zeroValue168
                                      g3 := by kernel_rfl
                                      g4 := by kernel_rfl }
end Go.Proofs
namespace Go.Proofs.YtcblpehnkogfdaaGreatDoor
namespace Fo
open Sh
theorem tab_keep {P : Program} {n : String} {g : Nat} {k : IntKind} {zs : List Int} {w w' : World} (hg : P.globalNamed n = some g) (h : Lib.TabIs P w n k zs) (he : Ext (fun _=> False) w w') : Lib.TabIs P w' n k zs := by
 unfold Lib.TabIs World.var? at h ⊢
 rw [hg] at h ⊢
 simp only [Option.bind_some] at h ⊢
 have hlt : g < w.heap.size := by
  rcases Nat.lt_or_ge g w.heap.size with h' | h'
  ·exact h'
  ·rw [Array.getElem?_eq_none h'] at h
   cases h
 rw [he.block g hlt id]
 exact h
def TB (w : World) : Prop := Lib.TabIs Tryz.prog w "strings.asciiSpace" .u8 Lib.asciiSpaceTab /\ Lib.Utf8Tabs 0 1 w
theorem TB.keep {w w' : World} (h : TB w) (he : Ext (fun _=> False) w w') : TB w' := ⟨tab_keep (g := 2) (by kernel_rfl) h.1 he,Utf8Tabs_below h.2 he.below⟩
theorem ext_of_below {w w' : World} (h : Go.RowKit.Below w.heap.size w w') : Ext (fun _=> False) w w' := ⟨h.os,h.tape,h.output,h.size,fun k hk _=> h.block k hk⟩
theorem c_valid {w : World} (hT : TB w) {s : ByteArray} (hs : s.size <= 9223372036854775807) : C98 s w fun r w1=> r = Lib.validD s.data.toList /\ Ext (fun _=> False) w w1 :=
 (Any.utf8_ValidString Tryz.lays196 s w hs hT.2).mono fun e w' h=> ⟨_,h.1,rfl,ext_of_below h.2⟩
end Fo
end Go.Proofs.YtcblpehnkogfdaaGreatDoor

/- Slices of bytes that own their row: append, the string of them. Condition: sizes below 2^40. -/
namespace Go.Proofs.YtcblpehnkogfdaaGreatDoor
namespace Sh
def bcs (l : List UInt8) : List Value := l.map fun b=> .int .u8 (b.toNat : Int)
theorem bcs_len (l : List UInt8) : (bcs l).length = l.length := by simp [bcs]
theorem bcs_append (l m : List UInt8) : bcs (l ++ m) = bcs l ++ bcs m := by simp [bcs]
theorem bcs_one (l : List UInt8) : ∀ v ∈ bcs l,v.oneCell' = true := by
 intro v hv
 obtain ⟨b,_,rfl⟩ := List.mem_map.1 hv
 rfl
theorem bcs_get {l : List UInt8} {i : Nat} {b : UInt8} (h : l[i]? = some b) : (bcs l)[i]? = some (.int .u8 (b.toNat : Int)) := by simp [bcs,h]
def BRow (w : World) (s : Slc) (l : List UInt8) : Prop := Row w s 5 1 (bcs l)
theorem BRow.len {w : World} {s : Slc} {l : List UInt8} (h : BRow w s l) : s.len = l.length := by
 have := h.1
 rw [bcs_len] at this
 omega
theorem BRow.nil (w : World) : BRow w ⟨none,0,0⟩ [] := Row.nil w _ _
theorem BRow.keep {F : Nat -> Prop} {w w' : World} {s : Slc} {l : List UInt8} (h : BRow w s l) (he : Ext F w w') (hn : ∀ j,s.own j -> ¬ F j) : BRow w' s l := Row.keep h he hn
theorem BRow.get {w : World} {s : Slc} {l : List UInt8} (h : BRow w s l) {i : Nat} {b : UInt8} (hi : l[i]? = some b) : ∃ g,s.p = some ⟨g,0,none⟩ /\ w.cell? ⟨g,i,none⟩ = some (.int .u8 (b.toNat : Int)) := Row.cell h (bcs_get hi)
theorem und_bytes : Tryz.prog.underlying 169 = some (.slice 5) := by kernel_rfl
theorem und_byte : Tryz.prog.underlying 5 = some (.int .u8) := by kernel_rfl
theorem und_string : Tryz.prog.underlying 9 = some .string := by kernel_rfl
theorem info_byte' : (match Tryz.prog.info? 5 with
 | some i=> Nat.beq i.size 1 && Nat.beq i.bytes 1 && (match i.zero with
  | some z=> Nat.beq z.cells.size 1
  | none=> false)
 | none=> false) = true := by kernel_rfl
theorem info_byte : ∃ i z,Tryz.prog.info? 5 = some i /\ i.size = 1 /\ i.bytes = 1 /\ i.zero = some z /\ z.cells.size = 1 := by
 have h := info_byte'
 split at h
 ·rename_i i hi
  simp only [Bool.and_eq_true] at h
  obtain ⟨⟨h1,h2⟩,h3⟩ := h
  split at h3
  ·rename_i z hz
   exact ⟨i,z,hi,Nat.eq_of_beq_eq_true h1,Nat.eq_of_beq_eq_true h2,hz,Nat.eq_of_beq_eq_true h3⟩
  ·cases h3
 ·cases h
section
variable {w : World} {s : Slc} {ty : TypeId} {l news : List UInt8} {x : Value}
def Appended (w : World) (s : Slc) (l : List UInt8) (r : Sem Value) : Prop :=
 ∃ s' w',RunV Tryz.prog r w (Slc.v s') w' /\ BRow w' s' l /\ Ext s.own w w' /\ ∀ j,s'.own j -> s.own j \/ w.heap.size <= j
theorem app_any {u : TypeId} (hu : (∃ e',Tryz.prog.underlying u = some (.slice e')) \/ Tryz.prog.underlying u = some .string)
  (hlen : Builtin.lenOf x = pure news.length) (hcells : ∀ w' : World,w'.heap = w.heap -> (Builtin.firstCells 1 news.length x).run Tryz.prog w' = .ok (bcs news).toArray w')
  (own : BRow w s l) (hb : l.length + news.length <= 1099511627776) : Appended w s (l ++ news) (Builtin.append_ #[169,u] ty #[Slc.v s,x]) := by
 obtain ⟨i,z,hi,h1,h2,hz,hzs⟩ := info_byte
 have hsl := own.len
 obtain ⟨s',w',hr,ho,_,he,hf⟩ := append_any (P := Tryz.prog) (w := w) (s := s) (t := 169) (u := u) (ty := ty) (e := 5) (i := i) (z := z) (xs := bcs l) (news := bcs news) (x := x) (m := news.length)
  und_bytes hu hi hz (by rw [hzs,h1]) hlen (by rw [h1]; exact hcells) (by rw [bcs_len,h1,Nat.mul_one]) (bcs_one news) (by rw [h1]; exact own) (by rw [h2,hsl]; omega) (by rw [hsl]; omega)
 exact ⟨s',w',hr,by unfold BRow; rw [bcs_append,<- h1]; exact ho,he,hf⟩
theorem app_row {s2 : Slc} {m : List UInt8} (own : BRow w s l) (h2 : BRow w s2 m) (hb : l.length + m.length <= 1099511627776) : Appended w s (l ++ m) (Builtin.append_ #[169,169] ty #[Slc.v s,Slc.v s2]) := by
 refine app_any (.inl ⟨_,und_bytes⟩) (by rw [<- h2.len]; rfl) (fun w' hw'=> ?_) own hb
 rcases h2.2 with rfl | ⟨g,cur,hp,hg,hle,hsz,htk⟩
 ·have : m = [] := List.eq_nil_of_length_eq_zero (by have := h2.len; simpa using this.symm)
  subst this
  exact run_firstCells_none (P := Tryz.prog) (w := w') 1 0 0 0
 ·obtain ⟨p,len,cap⟩ := s2
  simp only at hp
  subst hp
  refine run_firstCells_some w' 1 m.length ⟨g,0,none⟩ len cap (bcs m) (by rw [bcs_len,Nat.mul_one]) fun j v hj=> ?_
  obtain ⟨g',hg',h⟩ := Row.cell h2 hj
  cases hg'
  simpa [World.cell?,hw'] using h
theorem strOfNums_bytes (l : List UInt8) : strOfNums (l.map fun b=> (b.toNat : Int)) = ⟨l.toArray⟩ := by
 unfold strOfNums
 congr 1
 simp [Function.comp_def]
theorem str_row (h : BRow w s l) : RunV Tryz.prog (convert 169 9 (Slc.v s)) w (.string ⟨l.toArray⟩) w := by
 rcases h.2 with rfl | ⟨g,cur,hp,hg,hle,hsz,htk⟩
 ·have : l = [] := List.eq_nil_of_length_eq_zero (by have := h.len; simpa using this.symm)
  subst this
  exact run_convert_bytes_nil w _ _ und_bytes und_byte 0 0 _ und_string
 ·obtain ⟨p,len,cap⟩ := s
  simp only at hp
  subst hp
  have := run_convert_bytes_arg (P := Tryz.prog) w 169 5 und_bytes und_byte g 0 len cap (l.map fun b=> (b.toNat : Int)) (by rw [List.length_map]; exact h.len.symm) (fun i hi=> by
   have hil : i < l.length := by have := h.len; simp only at this; omega
   obtain ⟨g',hg',hc⟩ := h.get (List.getElem?_eq_getElem hil)
   cases hg'
   rw [Nat.zero_add,hc]
   simp [List.getD,hil]) 9 und_string
  rw [strOfNums_bytes] at this
  exact this
theorem BRow.set (h : BRow w s l) {i : Nat} (hi : i < l.length) (b : UInt8) : ∃ g,s.p = some ⟨g,0,none⟩ /\ CanSt w ⟨g,i,none⟩ /\ BRow (w.setCell ⟨g,i,none⟩ (.int .u8 (b.toNat : Int))) s (l.set i b) /\ Ext (· = g) w (w.setCell ⟨g,i,none⟩ (.int .u8 (b.toNat : Int))) := by
 rcases h.2 with rfl | ⟨g,cur,hp,hg,hle,hsz,htk⟩
 ·have := h.len
  simp only at this
  omega
 ·have hlen := h.len
  have hlt : i < cur.size := by omega
  refine ⟨g,hp,hg.can hlt,⟨by rw [bcs_len,List.length_set,hlen,Nat.mul_one],.inr ⟨g,_,hp,hg.set i _,hle,by simpa using hsz,?_⟩⟩,(Ext.refl (· = g) w).set (.inl rfl) _⟩
  rw [Array.toList_setIfInBounds,List.take_set,htk]
  simp [bcs,List.map_set]
end
end Sh
end Go.Proofs.YtcblpehnkogfdaaGreatDoor

/- Fonts: the units of a string; Check. Conditions: sizes, the laid tables. -/
namespace Go.Proofs.YtcblpehnkogfdaaGreatDoor
namespace Fo
open Sh Go.Lib
set_option maxRecDepth 4000
set_option maxHeartbeats 2000000
attribute [local irreducible] Ld St Nw Nn Lt LdS
theorem two_app {wb w : World} {s : Slc} {l : By} (hE : Ext (fun _=> False) wb w) (own : BRow w s l) (ho : ∀ j,s.own j -> wb.heap.size <= j) (hl : l.length + 2 <= 1099511627776) {x y : Int} {K : Slc -> World -> Prop}
  (kk : ∀ s' w',BRow w' s' (l ++ [ub x,ub y]) -> (∀ j,s'.own j -> wb.heap.size <= j) -> Ext (fun _=> False) wb w' -> Ext s.own w w' -> K s' w') :
  Nw w (.cells #[.int .u8 (IntKind.u8.wrap x),.int .u8 (IntKind.u8.wrap y)] 5) fun w1=>
   Rn Tryz.prog (Builtin.append_ #[169,169] 169 #[Slc.v s,Slc.v ((⟨some ⟨w.heap.size,0,none⟩,2,2⟩ : Slc))]) w1 Slc.v fun (x10 : Slc) vw11=> K x10 vw11 := by
 rw [<- ub_val x,<- ub_val y]
 refine Nw.of ?_
 have e1 := (Ext.refl (fun _=> False) w).alloc (.cells #[.int .u8 ((ub x).toNat : Int),.int .u8 ((ub y).toNat : Int)] 5)
 have h2 : BRow (w.alloc (.cells #[.int .u8 ((ub x).toNat : Int),.int .u8 ((ub y).toNat : Int)] 5)) ⟨some ⟨w.heap.size,0,none⟩,2,2⟩ [ub x,ub y] := Row.new w #[.int .u8 ((ub x).toNat : Int),.int .u8 ((ub y).toNat : Int)] 5 1 2 rfl
 obtain ⟨s',w',hrun,hrow,hext,hown⟩ := app_row (ty := 169) (own.keep e1 fun _ _ e=> e) h2 (by simpa using hl)
 have e2 : Ext s.own w w' := (e1.mono fun _ _ e=> e.elim).tr hext
 refine ⟨s',w',hrun,kk s' w' hrow (fun j hj=> ?_) (ext_new (hE.tr e1) hext ho) e2⟩
 rcases hown j hj with e | e
 ·exact ho j e
 ·have h1 := (hE.tr e1).size
  omega
theorem brow_cells {w : World} {s : Slc} {l : By} (h : BRow w s l) {j : Nat} (hj : s.own j) : ∃ cs,Blk w j cs 5 := own_blk h hj
theorem iter_own {w : World} {s : Slc} {l : By} (h : BRow w s l) {b pos : Nat} {t : ByteArray} (hb : w.heap[b]? = some (.stringIter t pos)) : ¬ s.own b := fun hj=> by
 obtain ⟨cs,hc⟩ := brow_cells h hj
 unfold Blk at hc
 rw [hb] at hc
 cases hc
theorem u16_len (c : Nat) : (Ut.u16 c).length = if 65535 < c then 2 else 1 := by
 unfold Ut.u16
 split <;> rfl
theorem c_units {s : ByteArray} (hs : s.size <= 1048576) (w : World) : C99 s w fun r w1=> r.size = ulen s /\ Ext (fun _=> False) w w1 := by
 refine T99 _ _ _ ?_
 unfold S99
 refine Nw.of ?_
 have e2 := (Ext.refl (fun _=> False) w).alloc (.stringIter s 0)
 have hsl : (bl s).length = s.size := Array.length_toList
 refine ⟨fun m st w1=> ∃ (pos : Nat) (l : By),w1.heap[w.heap.size]? = some (.stringIter s pos) /\ pos <= s.size /\ m = s.size - pos /\ BRow w1 st l /\ l.length <= 4 * pos /\ l.length + 2 * (Ut.unitsL ((bl s).drop pos)).length = ulen s /\ (∀ j,st.own j -> w.heap.size <= j) /\ Ext (fun _=> False) w w1,s.size,
  ⟨0,[],by unfold World.alloc; simp,Nat.zero_le _,rfl,BRow.nil _,Nat.zero_le _,by rw [List.drop_zero]; simp [ulen],fun j hj=> (no_own j hj).elim,e2⟩,?_⟩
 rintro m st w4 ⟨pos,l,hit,hp,rfl,hB,hlp,hlu,ho,e4⟩
 unfold S99L1
 refine ⟨s,pos,rfl,hit,?_⟩
 refine Br.dec (fun q=> ?_) fun q=> ?_
 ·have hne : (bl s).drop pos ≠ [] := fun e=> by
   have := congrArg List.length e
   rw [List.length_drop,hsl,List.length_nil] at this
   omega
  have hd := decodeL_drop s pos
  have hw := decodeL_width ((bl s).drop pos)
  have hle := decodeL_le ((bl s).drop pos) hne
  have hsc := Ut.rune_scalar ((bl s).drop pos)
  have hst := Ut.runes_step hne
  rw [List.length_drop,hsl] at hle
  have hd : decodeL ((bl s).drop pos) = Utf8.decode s pos := hd
  have hun : Ut.unitsL ((bl s).drop pos) = Ut.u16 (Utf8.decode s pos).1 ++ Ut.unitsL ((bl s).drop (pos + (Utf8.decode s pos).2)) := by
   unfold Ut.unitsL
   rw [hst,List.flatMap_cons,List.drop_drop,hd]
  rw [hd] at hw hle hsc
  rw [hun,List.length_append,u16_len] at hlu
  generalize (Utf8.decode s pos).1 = c at *
  generalize (Utf8.decode s pos).2 = n at *
  have hb : w.heap.size < w4.heap.size := by
   rcases Nat.lt_or_ge w.heap.size w4.heap.size with h | h
   ·exact h
   ·rw [Array.getElem?_eq_none h] at hit
    cases hit
  have e5 := itW_ext w4 w.heap.size s (pos + n)
  have hit5 := itW_at (s := s) (p := pos + n) hb
  have hB5 : BRow (itW w4 w.heap.size s (pos + n)) st l := hB.keep e5 fun j hj e=> by
   have e : j = w.heap.size := e
   subst e
   exact iter_own hB hit hj
  have E5 : Ext (fun _=> False) w (itW w4 w.heap.size s (pos + n)) := ext_new e4 e5 fun j e=> by
   have e : j = w.heap.size := e
   omega
  dsimp only
  generalize itW w4 w.heap.size s (pos + n) = w5 at *
  refine Br.dec (fun h1=> ?_) fun h1=> ?_
  ·rw [if_pos (by omega)] at hlu
   refine Lt.of (Lt.of ?_)
   refine two_app E5 hB5 ho (by omega) fun s1 w1 hB1 ho1 E1 x1=> Lt.of (Lt.of ?_)
   have hit1 : w1.heap[w.heap.size]? = some (.stringIter s (pos + n)) := by rw [x1.block _ (by have := e5.size; omega) (iter_own hB5 hit5)]; exact hit5
   refine two_app E1 hB1 ho1 (by rw [List.length_append,List.length_cons,List.length_cons,List.length_nil]; omega) fun s2 w2 hB2 ho2 E2 x2=> ?_
   have hit2 : w2.heap[w.heap.size]? = some (.stringIter s (pos + n)) := by
    rw [x2.block _ (by have := e5.size; have := x1.size; omega) (iter_own hB1 hit1)]
    exact hit1
   refine ⟨s.size - (pos + n),by omega,pos + n,_,hit2,by omega,rfl,hB2,?_,?_,ho2,E2⟩
   ·simp only [List.length_append,List.length_cons,List.length_nil]
    omega
   ·simp only [List.length_append,List.length_cons,List.length_nil]
    omega
  ·rw [if_neg (by omega)] at hlu
   refine two_app E5 hB5 ho (by omega) fun s1 w1 hB1 ho1 E1 x1=> ?_
   have hit1 : w1.heap[w.heap.size]? = some (.stringIter s (pos + n)) := by rw [x1.block _ (by have := e5.size; omega) (iter_own hB5 hit5)]; exact hit5
   refine ⟨s.size - (pos + n),by omega,pos + n,_,hit1,by omega,rfl,hB1,?_,?_,ho1,E1⟩
   ·simp only [List.length_append,List.length_cons,List.length_nil]
    omega
   ·simp only [List.length_append,List.length_cons,List.length_nil]
    omega
 ·have : pos = s.size := by omega
  subst this
  rw [show (bl s).drop s.size = [] by rw [<- hsl,List.drop_length]] at hlu
  refine ⟨_,_,str_row hB,?_,e4⟩
  have e : (⟨l.toArray⟩ : ByteArray).size = l.length := List.size_toArray
  rw [e,<- hlu]
  rfl
end Fo
end Go.Proofs.YtcblpehnkogfdaaGreatDoor
namespace Go.Proofs.YtcblpehnkogfdaaGreatDoor
namespace Fo
open Sh Go.Lib
set_option maxRecDepth 4000
set_option maxHeartbeats 2000000
attribute [local irreducible] Ld St Nw Nn Lt LdS
theorem rowsE_cons (most : Int) (prev : Option Int) (x : Int × ByteArray) (r : List (Int × ByteArray)) : rowsE most prev (x :: r) = if rowE most prev x ≠ 0 then rowE most prev x else rowsE most (some x.1) r := rfl
theorem c_mapsE {w : World} {s : Slc} {l : List (Int × ByteArray)} (hT : TB w) (hV : VRow w s 2 (l.flatMap mcells)) (hl : l.length <= 1048576) (hz : ∀ x ∈ l,x.2.size <= 1048576) (wide : Bool) : C60 s wide w fun r w1=> r = mapsE l wide /\ Ext (fun _=> False) w w1 := by
 have hlen : s.len = l.length := VRow.count mcells_len (by decide) hV
 refine T60 _ _ _ _ ?_
 unfold S60
 have key : S60J1 s (fun r w1=> r = mapsE l wide /\ Ext (fun _=> False) w w1) (if wide then 65535 else 255) w := by
  unfold S60J1 mapsE
  rw [hlen]
  generalize (if wide then (65535 : Int) else 255) = most
  refine Br.dec (fun q=> ⟨by rw [if_pos (by omega)],Ext.refl _ _⟩) fun q=> ?_
  rw [if_neg (by omega)]
  refine ⟨fun m st w1=> ∃ (i : Nat) (prev : Option Int),st = (i : Int) /\ i <= l.length /\ m = l.length - i /\ (i = 0 -> prev = none) /\ (∀ y,0 < i -> l[i - 1]? = some y -> prev = some y.1) /\ rowsE most none l = rowsE most prev (l.drop i) /\ Ext (fun _=> False) w w1,l.length,⟨0,none,rfl,Nat.zero_le _,rfl,fun _=> rfl,fun y h=> absurd h (Nat.lt_irrefl _),rfl,Ext.refl _ _⟩,?_⟩
  rintro m st w6 ⟨i,prev,rfl,hi,rfl,hp0,hp1,hr,e6⟩
  unfold S60L1
  rw [hlen]
  refine Br.dec (fun q=> ?_) fun q=> ?_
  ·have hil : i < l.length := by omega
   have gi : l[i]? = some l[i] := List.getElem?_eq_getElem hil
   obtain ⟨a,ha,hc⟩ := VRow.elem mcells_len (hV.keep e6) gi (by decide)
   have hxz := hz _ (List.getElem_mem hil)
   rw [List.drop_eq_getElem_cons hil,rowsE_cons] at hr
   have hnx : ∀ y,0 < i + 1 -> l[i + 1 - 1]? = some y -> (some l[i].1 : Option Int) = some y.1 := fun y _ hy=> by
    rw [Nat.add_sub_cancel,gi] at hy
    cases hy
    rfl
   generalize l[i] = x at *
   rw [ha]
   refine ⟨by omega,by omega,Nn.of ?_⟩
   rw [Int.toNat_natCast]
   refine Ld.mk (x := x.1) (by have := hc 0 _ rfl; simpa using this) (Ld.mk (x := x.2) (by rw [add_add']; exact hc 1 _ rfl) ?_)
   refine (Hn.start w6).nw fun w11 H=> ?_
   have H : Hn w6 w11 [(w6.heap.size,mcells (0,⟨#[]⟩),145)] := H
   refine H.st 0 rfl (of_decide_eq_true rfl) fun w12 H=> H.st 0 rfl (of_decide_eq_true rfl) fun w13 H=> ?_
   have H : Hn w6 w13 [(w6.heap.size,mcells x,145)] := H
   have E13 := e6.tr H.ext
   refine H.ld 0 rfl (x := x.1) rfl ?_
   have r2 : (x.1 < 0 \/ most < x.1) -> rowE most prev x = 2 := fun h=> by unfold rowE; rw [if_pos h]
   refine Br.dec (fun h1=> ⟨by rw [hr,r2 (.inl h1)]; rfl,E13⟩) fun h1=> H.ld 0 rfl (x := x.1) rfl ?_
   refine Br.dec (fun h2=> ⟨by rw [hr,r2 (.inr (by omega))]; rfl,E13⟩) fun h2=> H.ld 0 rfl (x := x.2) rfl ?_
   have hn2 : ¬ (x.1 < 0 \/ most < x.1) := by omega
   refine (c_valid (hT.keep E13) (by omega)).mono ?_
   rintro r w18 ⟨rfl,e18⟩
   have H := H.keep e18
   have E18 := E13.tr e18
   cases hv : validD x.2.data.toList with
   | false=>
    refine Br.t rfl ⟨?_,E18⟩
    have : rowE most prev x = 3 := by unfold rowE; rw [if_neg hn2,if_pos (show validD (bl x.2) = false from hv)]
    rw [hr,this]
    rfl
   | true=>
   refine Br.f rfl (H.ld 0 rfl (x := x.2) rfl ?_)
   have hn3 : ¬ (validD (bl x.2) = false) := by
    intro h
    rw [show bl x.2 = x.2.data.toList from rfl,hv] at h
    cases h
   refine (c_units hxz w18).mono ?_
   rintro r w21 ⟨hru,e21⟩
   have H := H.keep e21
   have E21 := E18.tr e21
   rw [hru]
   refine Br.dec (fun h4=> ⟨?_,E21⟩) fun h4=> ?_
   ·have : rowE most prev x = 5 := by unfold rowE; rw [if_neg hn2,if_neg hn3,if_pos (by omega)]
    rw [hr,this]
    rfl
   have hn4 : ¬ (512 < ulen x.2) := by omega
   have hE : rowE most prev x = prevE prev x.1 := by unfold rowE; rw [if_neg hn2,if_neg hn3,if_neg hn4]
   have next : ∀ w',rowE most prev x = 0 -> Ext (fun _=> False) w w' -> ∃ n',n' < l.length - i /\ ∃ (i_1 : Nat) (prev : Option Int),IntKind.i64.wrap ((i : Int) + 1) = (i_1 : Int) /\ i_1 <= l.length /\ n' = l.length - i_1 /\ (i_1 = 0 -> prev = none) /\ (∀ y,0 < i_1 -> l[i_1 - 1]? = some y -> prev = some y.1) /\ rowsE most none l = rowsE most prev (l.drop i_1) /\ Ext (fun _=> False) w w' := fun w' h0 h1=>
    ⟨l.length - (i + 1),by omega,i + 1,some x.1,by rw [i64_id (by omega)]; rfl,by omega,rfl,fun h=> by omega,hnx,by rw [hr,h0]; rfl,h1⟩
   have Hd := H.drew
   have Hdd := Hd.drew
   refine Br.dec (fun h5=> ?_) fun h5=> ?_
   ·have hi0 : 0 < i := by omega
    have hk : i - 1 < l.length := by omega
    have ek : IntKind.i64.wrap ((i : Int) - 1) = ((i - 1 : Nat) : Int) := by rw [i64_id (by omega)]; omega
    have gk : l[i - 1]? = some l[i - 1] := List.getElem?_eq_getElem hk
    have hpv := hp1 _ hi0 gk
    obtain ⟨a2,ha2,hc2⟩ := VRow.elem mcells_len (hV.keep E21.drew) gk (by decide)
    rw [ha] at ha2
    cases ha2
    generalize l[i - 1] = y at *
    subst hpv
    rw [ek]
    have b1 : (0 : Int) <= ((i - 1 : Nat) : Int) := by omega
    have b2 : ((i - 1 : Nat) : Int) < ((l.length : Nat) : Int) := by omega
    have cy : w21.drew.cell? (a.add (((i - 1 : Nat) : Int).toNat * 2)) = some (.int .i64 y.1) := by rw [Int.toNat_natCast]; have := hc2 0 _ rfl; simpa using this
    refine Hd.ld 0 rfl (x := x.1) rfl ⟨b1,b2,Nn.of (Ld.mk (x := y.1) cy ?_)⟩
    refine Br.eq (fun h6=> ⟨?_,E21.drew⟩) fun h6=> ?_
    ·rw [hr,hE]
     simp [prevE,h6]
    ·refine Br.t (by rw [decide_eq_true_eq]; omega) (Hdd.ld 0 rfl (x := x.1) rfl ⟨b1,b2,Nn.of (Ld.mk (x := y.1) cy ?_)⟩)
     refine Br.dec (fun h7=> ⟨?_,E21.drew.drew⟩) fun h7=> next _ ?_ E21.drew.drew
     ·rw [hr,hE]
      simp [prevE,h6,h7]
     ·rw [hE]
      simp [prevE,h6,h7]
   ·have hi0 : i = 0 := by omega
    have hpv := hp0 hi0
    subst hpv
    exact Br.f (by rw [decide_eq_false_iff_not]; omega) (next _ hE E21.drew.drew)
  ·have : i = l.length := by omega
   subst this
   rw [List.drop_length] at hr
   exact ⟨hr.symm,e6⟩
 refine ⟨fun st w'=> st = (if wide then 65535 else 255) /\ w' = w,fun st w' hh=> ?_,?_⟩
 ·obtain ⟨rfl,rfl⟩ := hh
  exact key
 ·cases wide with
  | true=> exact Br.t rfl ⟨rfl,rfl⟩
  | false=> exact Br.f rfl ⟨rfl,rfl⟩
theorem c_chk {w : World} {x : FT} {f : Font} (hT : TB w) (h : FoV w x f) : C33 x w fun r w1=> r = chkF f /\ Ext (fun _=> False) w w1 := by
 refine T33 _ _ _ ?_
 unfold S33
 refine Nw.of ?_
 have H := fo_blk w x
 have hE := H.ext
 generalize w.alloc (.cells (Sig.cells LiA34 x).toArray 35) = wd at *
 refine H.ldT (i := 0) (b := w.heap.size) (o := 0) (t := 35) (ts := LiA34) (x := x) (pre := []) (post := []) rfl rfl ?_
 refine (c_may (h.keep hE)).mono ?_
 rintro r w8 ⟨rfl,e8⟩
 have H := H.keep e8
 have E8 := hE.tr e8
 unfold chkF
 cases hm : mayF f with
 | false=> exact Br.t rfl ⟨rfl,E8⟩
 | true=>
  refine Br.f rfl (H.ld 0 rfl (x := x.2.2.2.2.2.2) rfl (H.ld 0 rfl (x := x.2.1) rfl ?_))
  refine (c_mapsE (hT.keep E8) (h.keep E8).maps h.lm h.szm x.2.1).mono ?_
  rintro r w12 ⟨rfl,e12⟩
  refine ⟨?_,E8.tr e12⟩
  rw [if_neg (by decide),h.wide]
theorem c_width {w : World} {x : FT} {f : Font} (h : FoV w x f) (h0 : 0 <= f.first) {code : Int} (hc : I64 code) : C65 x code w fun r w1=> r = widthF f code /\ Ext (fun _=> False) w w1 := by
 refine T65 _ _ _ _ ?_
 unfold S65
 refine Nw.of ?_
 have H := fo_blk w x
 have hE := H.ext
 have hw := h.wlen
 have hif := h.ifirst
 have hlw := h.lw
 unfold I64 at hif hc
 generalize w.alloc (.cells (Sig.cells LiA34 x).toArray 35) = wd at *
 unfold widthF
 refine H.ld 0 rfl (x := x.2.2.1) rfl ?_
 rw [h.first]
 refine Br.dec (fun q=> H.ld 0 rfl (x := x.2.2.2.2.1) rfl ⟨by rw [h.missing,if_pos (.inl q)],hE⟩) fun q=> ?_
 refine H.ld 0 rfl (x := x.2.2.1) rfl (H.ld 0 rfl (x := x.2.2.2.1) rfl ?_)
 rw [h.first,hw,i64_id (n := code - f.first) (by omega)]
 refine Br.dec (fun q2=> H.ld 0 rfl (x := x.2.2.2.2.1) rfl ⟨by rw [h.missing,if_pos (.inr q2)],hE⟩) fun q2=> ?_
 refine H.ld 0 rfl (x := x.2.2.1) rfl ?_
 rw [h.first,i64_id (n := code - f.first) (by omega)]
 refine Br.dec (fun q3=> absurd q3 (by omega)) fun q3=> ?_
 refine H.ld 0 rfl (x := x.2.2.2.1) rfl (H.ld 0 rfl (x := x.2.2.1) rfl ?_)
 rw [h.first,hw,i64_id (n := code - f.first) (by omega)]
 have hil : (code - f.first).toNat < f.widths.length := by omega
 obtain ⟨a,ha,hcl⟩ := VRow.elem icell_len (h.widths.keep hE) (List.getElem?_eq_getElem hil) (by decide)
 have hgd : f.widths.getD (code - f.first).toNat 0 = f.widths[(code - f.first).toNat] := by rw [List.getD_eq_getElem?_getD,List.getElem?_eq_getElem hil]; rfl
 rw [ha]
 refine ⟨by omega,by omega,Nn.of (Ld.mk (x := f.widths[(code - f.first).toNat]) (by have := hcl 0 _ rfl; simpa using this) ⟨?_,hE⟩)⟩
 rw [if_neg (by omega),hgd]
theorem ior_add {a b i : Nat} (ha : a * 2 ^ i < 9223372036854775808) (hb : b < 2 ^ i) (h2 : a * 2 ^ i + b < 9223372036854775808) : ior .i64 (((a * 2 ^ i : Nat)) : Int) (b : Int) = ((a * 2 ^ i + b : Nat) : Int) := by
 unfold ior
 have e : (BitVec.ofInt IntKind.i64.bits (((a * 2 ^ i : Nat)) : Int) ||| BitVec.ofInt IntKind.i64.bits (b : Int)).toNat = a * 2 ^ i + b := by
  rw [BitVec.toNat_or]
  have hbits : IntKind.i64.bits = 64 := rfl
  have t : ∀ n : Nat,n < 9223372036854775808 -> (BitVec.ofInt IntKind.i64.bits (n : Int)).toNat = n := fun n hn=> by
   rw [BitVec.toNat_ofInt,hbits]
   omega
  rw [t _ ha,t b (by omega)]
  have h3 := Nat.shiftLeft_add_eq_or_of_lt hb a
  rw [Nat.shiftLeft_eq] at h3
  exact h3.symm
 rw [e]
 exact i64_id (by omega)
theorem elI : El Tryz.prog 132 3 1 8 (.int .i64 0) := ⟨by kernel_rfl,by kernel_rfl,by kernel_rfl,by kernel_rfl,rfl⟩
theorem icell_one (n : Int) : ∀ v ∈ icell n,v.oneCell' = true := fun v hv=> by
 simp only [icell,List.mem_cons,List.not_mem_nil,or_false] at hv
 subst hv
 rfl
theorem int_app {wb w : World} {s : Slc} {l : List Int} (hE : Ext (fun _=> False) wb w) (own : Row w s 3 1 (l.flatMap icell)) (ho : ∀ j,s.own j -> wb.heap.size <= j) (hl : l.length <= 4194304) {n : Int} {K : Slc -> World -> Prop}
  (kk : ∀ s' w',Row w' s' 3 1 ((l ++ [n]).flatMap icell) -> (∀ j,s'.own j -> wb.heap.size <= j) -> Ext (fun _=> False) wb w' -> K s' w') :
  Nw w (.cells #[.int .i64 n] 3) fun w1=>
   Rn Tryz.prog (Builtin.append_ #[132,132] 132 #[Slc.v s,Slc.v ((⟨some ⟨w.heap.size,0,none⟩,1,1⟩ : Slc))]) w1 Slc.v fun (x10 : Slc) vw11=> K x10 vw11 := by
 refine Nw.of ?_
 have hsl : s.len = l.length := VRow.count icell_len (by decide) (Row.view own)
 have e1 := (Ext.refl (fun _=> False) w).alloc (.cells (icell n).toArray 3)
 obtain ⟨s',w',hrun,hrow,hlen',hext,hown⟩ := elI.app1 (ty := 132) (ys := icell n) (own.keep e1 fun _ _ e=> e) (Blk.new w (icell n).toArray 3) rfl (icell_one _) (by omega) (by omega)
 refine ⟨s',w',hrun,kk s' w' (by rw [List.flatMap_append]; simpa using hrow) (fun j hj=> ?_) (ext_new (hE.tr e1) hext ho)⟩
 rcases hown j hj with e | e
 ·exact ho j e
 ·have h1 := (hE.tr e1).size
  omega
theorem pairs_take : ∀ (l : By) (i : Nat),2 * i + 1 < l.length -> pairs (l.take (2 * (i + 1))) = pairs (l.take (2 * i)) ++ [256 * ((l.getD (2 * i) 0).toNat : Int) + ((l.getD (2 * i + 1) 0).toNat : Int)]
 | [],i,h=> by simp at h
 | [a],i,h=> by simp at h
 | a :: b :: r,0,h=> by simp [pairs]
 | a :: b :: r,i + 1,h=> by
  have ih := pairs_take r i (by simp only [List.length_cons] at h; omega)
  have e1 : 2 * (i + 1 + 1) = 2 * (i + 1) + 1 + 1 := by omega
  have e2 : 2 * (i + 1) = 2 * i + 1 + 1 := by omega
  rw [e1,List.take_succ_cons,List.take_succ_cons]
  conv=> rhs; rw [e2,List.take_succ_cons,List.take_succ_cons]
  show _ :: pairs (r.take (2 * (i + 1))) = (_ :: pairs (r.take (2 * i))) ++ _
  rw [ih]
  rfl
theorem c_codes {w : World} {x : FT} {f : Font} (h : FoV w x f) {s : ByteArray} (hs : s.size <= 1048576) : C91 x s w fun r e w1=> e = (codesF f.wide s).2 /\ VRow w1 r 1 ((codesF f.wide s).1.flatMap icell) /\ Ext (fun _=> False) w w1 /\ ∀ j,r.own j -> w.heap.size <= j := by
 refine T91 _ _ _ _ ?_
 unfold S91
 refine Nw.of ?_
 have H := fo_blk w x
 have hE := H.ext
 have hsl : (bl s).length = s.size := Array.length_toList
 generalize w.alloc (.cells (Sig.cells LiA34 x).toArray 35) = wd at *
 refine H.ld 0 rfl (x := x.2.1) rfl ?_
 rw [h.wide]
 cases hw : f.wide with
 | false=>
  refine Br.t rfl ?_
  unfold codesF
  rw [if_pos rfl]
  refine ⟨fun m st w1=> ∃ i : Nat,st.2 = (i : Int) /\ i <= s.size /\ m = s.size - i /\ Row w1 st.1 3 1 ((((bl s).take i).map fun b=> (b.toNat : Int)).flatMap icell) /\ (∀ j,st.1.own j -> w.heap.size <= j) /\ Ext (fun _=> False) w w1,s.size,⟨0,rfl,Nat.zero_le _,rfl,Row.nil _ _ _,fun j hj=> (no_own j hj).elim,hE⟩,?_⟩
  rintro m ⟨so,i'⟩ w13 ⟨i,hi',hi,rfl,hR,ho,e13⟩
  simp only at hi' hR ho
  subst hi'
  unfold S91L1
  dsimp only
  refine Br.dec (fun q=> ⟨by omega,by omega,?_⟩) fun q=> ?_
  ·have hil : i < (bl s).length := by omega
   have hbt := bAt_list s i
   have hbb : (bl s).getD i 0 = (bl s)[i] := by rw [List.getD_eq_getElem?_getD,List.getElem?_eq_getElem hil]; rfl
   have hb1 : bAt s (i : Int) = ((bl s)[i].toNat : Int) := by rw [hbt]; exact congrArg (fun b : UInt8=> ((b.toNat : Nat) : Int)) hbb
   have hlt := (bl s)[i].toNat_lt
   rw [hb1,i64_id (by omega)]
   refine int_app e13 hR ho (by rw [List.length_map,List.length_take]; omega) fun s' w' h1 h2 h3=> ?_
   refine ⟨s.size - (i + 1),by omega,i + 1,by rw [i64_id (by omega)]; rfl,by omega,rfl,?_,h2,h3⟩
   rw [take_succ hil,List.map_append]
   exact h1
  ·have : i = (bl s).length := by omega
   subst this
   rw [List.take_length] at hR
   exact ⟨rfl,Row.view hR,e13,ho⟩
 | true=>
  refine Br.f rfl ?_
  unfold codesF
  rw [if_neg (by decide)]
  have ht : Int.tmod ((s.size : Nat) : Int) 2 = ((s.size % 2 : Nat) : Int) := by rw [tmod_id (by omega)]; rfl
  rw [ht]
  refine Br.ne (fun q=> ?_) fun q=> ?_
  ·rw [if_pos (by omega)]
   exact ⟨rfl,Row.view (Row.nil _ 3 _),hE,fun j hj=> (no_own j hj).elim⟩
  ·rw [if_neg (by omega)]
   refine ⟨fun m st w1=> ∃ i : Nat,st.2 = ((2 * i : Nat) : Int) /\ 2 * i <= s.size /\ m = s.size - i /\ Row w1 st.1 3 1 ((pairs ((bl s).take (2 * i))).flatMap icell) /\ (pairs ((bl s).take (2 * i))).length = i /\ (∀ j,st.1.own j -> w.heap.size <= j) /\ Ext (fun _=> False) w w1,s.size,⟨0,rfl,Nat.zero_le _,rfl,Row.nil _ _ _,rfl,fun j hj=> (no_own j hj).elim,hE⟩,?_⟩
   rintro m ⟨so,i'⟩ w19 ⟨i,hi',hi,rfl,hR,hpl,ho,e19⟩
   simp only at hi' hR ho
   subst hi'
   unfold S91L2
   dsimp only
   refine Br.dec (fun q2=> ?_) fun q2=> ?_
   ·have hil : 2 * i + 1 < (bl s).length := by omega
    have ek : IntKind.i64.wrap (((2 * i : Nat) : Int) + 1) = ((2 * i + 1 : Nat) : Int) := by rw [i64_id (by omega)]; rfl
    have hpt := pairs_take (bl s) i hil
    have hb0 : bAt s ((2 * i : Nat) : Int) = (((bl s).getD (2 * i) 0).toNat : Int) := bAt_list s (2 * i)
    have hb1 : bAt s ((2 * i + 1 : Nat) : Int) = (((bl s).getD (2 * i + 1) 0).toNat : Int) := bAt_list s (2 * i + 1)
    have l0 := ((bl s).getD (2 * i) 0).toNat_lt
    have l1 := ((bl s).getD (2 * i + 1) 0).toNat_lt
    rw [ek,hb0,hb1]
    generalize ((bl s).getD (2 * i) 0).toNat = a at *
    generalize ((bl s).getD (2 * i + 1) 0).toNat = b at *
    have eo : ior .i64 (IntKind.i64.wrap (IntKind.i64.wrap (a : Int) * 2 ^ 8)) (IntKind.i64.wrap (b : Int)) = 256 * (a : Int) + (b : Int) := by
     rw [i64_id (n := (a : Int)) (by omega),i64_id (n := (b : Int)) (by omega),i64_id (by omega)]
     have := ior_add (a := a) (b := b) (i := 8) (by omega) (by omega) (by omega)
     have e1 : ((a * 2 ^ 8 : Nat) : Int) = (a : Int) * 2 ^ 8 := by omega
     rw [e1] at this
     rw [this]
     omega
    rw [eo]
    refine ⟨by omega,by omega,by omega,by omega,?_⟩
    refine int_app e19.drew (hR.keep (Ext.refl (fun _=> False) w19).drew fun _ _ e=> e) ho (by omega) fun s' w' h1 h2 h3=> ?_
    refine ⟨s.size - (i + 1),by omega,i + 1,by rw [i64_id (by omega)]; omega,by omega,rfl,?_,?_,h2,h3⟩
    ·rw [hpt]
     exact h1
    ·rw [hpt,List.length_append,hpl]
     rfl
   ·have : 2 * i = (bl s).length := by omega
    rw [this,List.take_length] at hR
    exact ⟨rfl,Row.view hR,e19,ho⟩
end Fo
end Go.Proofs.YtcblpehnkogfdaaGreatDoor
