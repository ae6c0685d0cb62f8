/- The formulas of 21 functions of the program, written by program (gen.py); the kernel checks each. No condition. -/
import Derived.Test.YtcblpehnkogfdaaGreatDoorQYQDoes2
import Derived.Lib.MapLaws
import Derived.Lib.ValidLaws
import Derived.Lib.Fields
set_option linter.unusedVariables false
set_option linter.unusedSimpArgs false
namespace Go.Proofs.YtcblpehnkogfdaaGreatDoor
set_option maxRecDepth 100000
open Sh
set_option maxRecDepth 100000
def C93 (m1 : Option Addr) (w : World) (R : (Option Addr × Option Addr × Option Addr × Option Addr × Option Addr × Option Addr) -> World -> Prop) : Prop :=
 Calls Tryz.prog 93 #[.pointer m1] w fun e w'=> ∃ r0 : Option Addr × Option Addr × Option Addr × Option Addr × Option Addr × Option Addr,e = .returned (.agg #[.pointer r0.1,.pointer r0.2.1,.pointer r0.2.2.1,.pointer r0.2.2.2.1,.pointer r0.2.2.2.2.1,.pointer r0.2.2.2.2.2]) /\ R r0 w'
theorem C93.mono {m1 : Option Addr} {w : World} {R R' : (Option Addr × Option Addr × Option Addr × Option Addr × Option Addr × Option Addr) -> World -> Prop} (h : C93 m1 w R) (hr : ∀ r0 w',R r0 w' -> R' r0 w') : C93 m1 w R' :=
 Calls.mono h fun _ _ ⟨r0,he,hR⟩=> ⟨r0,he,hr _ _ hR⟩
def C94 (n1 : Int) (w : World) (R : Bool -> World -> Prop) : Prop :=
 Calls Tryz.prog 94 #[.int .i64 n1] w fun e w'=> ∃ r0 : Bool,e = .returned (.bool r0) /\ R r0 w'
theorem C94.mono {n1 : Int} {w : World} {R R' : Bool -> World -> Prop} (h : C94 n1 w R) (hr : ∀ r0 w',R r0 w' -> R' r0 w') : C94 n1 w R' :=
 Calls.mono h fun _ _ ⟨r0,he,hR⟩=> ⟨r0,he,hr _ _ hR⟩
def C57 (m1 : Int × Int × Int × Int × Int × Int) (w : World) (R : Int -> World -> Prop) : Prop :=
 Calls Tryz.prog 57 #[.agg #[.int .i64 (m1.1),.int .i64 (m1.2.1),.int .i64 (m1.2.2.1),.int .i64 (m1.2.2.2.1),.int .i64 (m1.2.2.2.2.1),.int .i64 (m1.2.2.2.2.2)]] w fun e w'=> ∃ r0 : Int,e = .returned (.int .i64 r0) /\ R r0 w'
theorem C57.mono {m1 : Int × Int × Int × Int × Int × Int} {w : World} {R R' : Int -> World -> Prop} (h : C57 m1 w R) (hr : ∀ r0 w',R r0 w' -> R' r0 w') : C57 m1 w R' :=
 Calls.mono h fun _ _ ⟨r0,he,hR⟩=> ⟨r0,he,hr _ _ hR⟩
def C133 (x1 : Value) (why2 : Option Addr) (w : World) (R : World -> Prop) (PR : Value -> World -> Prop) : Prop :=
 Calls Tryz.prog 133 #[x1,.pointer why2] w fun e w'=> (e = .returned (.tuple #[]) /\ R w') \/ ∃ v,e = .panicked (onePanic v) /\ PR v w'
theorem C133.mono {x1 : Value} {why2 : Option Addr} {w : World} {R R' : World -> Prop} {PR PR' : Value -> World -> Prop} (h : C133 x1 why2 w R PR) (hr : ∀ w',R w' -> R' w') (hp : ∀ v w',PR v w' -> PR' v w') : C133 x1 why2 w R' PR' :=
 Calls.mono h fun _ _ he=> he.elim (fun ⟨he,hR⟩=> .inl ⟨he,hr _ hR⟩) fun ⟨v,he,hP⟩=> .inr ⟨v,he,hp _ _ hP⟩
def CD132 (c1 : Addr) (c2 : Addr) (u : Option Value) (w : World) (R : World -> Prop) : Prop := CallD Tryz.prog 132 #[.pointer (some c1),.pointer (some c2)] u w R
def C134 (why1 : Int) (w : World) (R : World -> Prop) (PR : Value -> World -> Prop) : Prop :=
 Calls Tryz.prog 134 #[.int .i64 why1] w fun e w'=> (e = .returned (.tuple #[]) /\ R w') \/ ∃ v,e = .panicked (onePanic v) /\ PR v w'
theorem C134.mono {why1 : Int} {w : World} {R R' : World -> Prop} {PR PR' : Value -> World -> Prop} (h : C134 why1 w R PR) (hr : ∀ w',R w' -> R' w') (hp : ∀ v w',PR v w' -> PR' v w') : C134 why1 w R' PR' :=
 Calls.mono h fun _ _ he=> he.elim (fun ⟨he,hR⟩=> .inl ⟨he,hr _ hR⟩) fun ⟨v,he,hP⟩=> .inr ⟨v,he,hp _ _ hP⟩
def C135 (l1 : Slc) (w : World) (R : Int -> World -> Prop) (PR : Value -> World -> Prop) : Prop :=
 Calls Tryz.prog 135 #[Slc.v l1] w fun e w'=> (∃ r0 : Int,e = .returned (.int .i64 r0) /\ R r0 w') \/ ∃ v,e = .panicked (onePanic v) /\ PR v w'
theorem C135.mono {l1 : Slc} {w : World} {R R' : Int -> World -> Prop} {PR PR' : Value -> World -> Prop} (h : C135 l1 w R PR) (hr : ∀ r0 w',R r0 w' -> R' r0 w') (hp : ∀ v w',PR v w' -> PR' v w') : C135 l1 w R' PR' :=
 Calls.mono h fun _ _ he=> he.elim (fun ⟨r0,he,hR⟩=> .inl ⟨r0,he,hr _ _ hR⟩) fun ⟨v,he,hP⟩=> .inr ⟨v,he,hp _ _ hP⟩
def C115 (a1 : Int × Int × Int × Int × Int × Int) (b2 : Int × Int × Int × Int × Int × Int) (w : World) (R : (Int × Int × Int × Int × Int × Int) -> Int -> World -> Prop) : Prop :=
 Calls Tryz.prog 115 #[.agg #[.int .i64 (a1.1),.int .i64 (a1.2.1),.int .i64 (a1.2.2.1),.int .i64 (a1.2.2.2.1),.int .i64 (a1.2.2.2.2.1),.int .i64 (a1.2.2.2.2.2)],.agg #[.int .i64 (b2.1),.int .i64 (b2.2.1),.int .i64 (b2.2.2.1),.int .i64 (b2.2.2.2.1),.int .i64 (b2.2.2.2.2.1),.int .i64 (b2.2.2.2.2.2)]] w fun e w'=> ∃ r0 : Int × Int × Int × Int × Int × Int,∃ r1 : Int,e = .returned (.tuple #[.agg #[.int .i64 (r0.1),.int .i64 (r0.2.1),.int .i64 (r0.2.2.1),.int .i64 (r0.2.2.2.1),.int .i64 (r0.2.2.2.2.1),.int .i64 (r0.2.2.2.2.2)],.int .i64 r1]) /\ R r0 r1 w'
theorem C115.mono {a1 : Int × Int × Int × Int × Int × Int} {b2 : Int × Int × Int × Int × Int × Int} {w : World} {R R' : (Int × Int × Int × Int × Int × Int) -> Int -> World -> Prop} (h : C115 a1 b2 w R) (hr : ∀ r0 r1 w',R r0 r1 w' -> R' r0 r1 w') : C115 a1 b2 w R' :=
 Calls.mono h fun _ _ ⟨r0,r1,he,hR⟩=> ⟨r0,r1,he,hr _ _ _ hR⟩
def CD142 (c1 : Addr) (c2 : Addr) (u : Option Value) (w : World) (R : World -> Prop) : Prop := CallD Tryz.prog 142 #[.pointer (some c1),.pointer (some c2)] u w R
def C122 (m1 : Int × Int × Int × Int × Int × Int) (p2 : Int × Int) (w : World) (R : (Int × Int) -> Int -> World -> Prop) : Prop :=
 Calls Tryz.prog 122 #[.agg #[.int .i64 (m1.1),.int .i64 (m1.2.1),.int .i64 (m1.2.2.1),.int .i64 (m1.2.2.2.1),.int .i64 (m1.2.2.2.2.1),.int .i64 (m1.2.2.2.2.2)],.agg #[.int .i64 (p2.1),.int .i64 (p2.2)]] w fun e w'=> ∃ r0 : Int × Int,∃ r1 : Int,e = .returned (.tuple #[.agg #[.int .i64 (r0.1),.int .i64 (r0.2)],.int .i64 r1]) /\ R r0 r1 w'
theorem C122.mono {m1 : Int × Int × Int × Int × Int × Int} {p2 : Int × Int} {w : World} {R R' : (Int × Int) -> Int -> World -> Prop} (h : C122 m1 p2 w R) (hr : ∀ r0 r1 w',R r0 r1 w' -> R' r0 r1 w') : C122 m1 p2 w R' :=
 Calls.mono h fun _ _ ⟨r0,r1,he,hR⟩=> ⟨r0,r1,he,hr _ _ _ hR⟩
def C143 (n1 : Int) (w : World) (R : Int -> World -> Prop) : Prop :=
 Calls Tryz.prog 143 #[.int .i64 n1] w fun e w'=> ∃ r0 : Int,e = .returned (.int .i64 r0) /\ R r0 w'
theorem C143.mono {n1 : Int} {w : World} {R R' : Int -> World -> Prop} (h : C143 n1 w R) (hr : ∀ r0 w',R r0 w' -> R' r0 w') : C143 n1 w R' :=
 Calls.mono h fun _ _ ⟨r0,he,hR⟩=> ⟨r0,he,hr _ _ hR⟩
def C123 (m1 : Int × Int × Int × Int × Int × Int) (p2 : Int × Int) (w : World) (R : Int -> Int -> World -> Prop) : Prop :=
 Calls Tryz.prog 123 #[.agg #[.int .i64 (m1.1),.int .i64 (m1.2.1),.int .i64 (m1.2.2.1),.int .i64 (m1.2.2.2.1),.int .i64 (m1.2.2.2.2.1),.int .i64 (m1.2.2.2.2.2)],.agg #[.int .i64 (p2.1),.int .i64 (p2.2)]] w fun e w'=> ∃ r0 : Int,∃ r1 : Int,e = .returned (.tuple #[.int .i64 r0,.int .i64 r1]) /\ R r0 r1 w'
theorem C123.mono {m1 : Int × Int × Int × Int × Int × Int} {p2 : Int × Int} {w : World} {R R' : Int -> Int -> World -> Prop} (h : C123 m1 p2 w R) (hr : ∀ r0 r1 w',R r0 r1 w' -> R' r0 r1 w') : C123 m1 p2 w R' :=
 Calls.mono h fun _ _ ⟨r0,r1,he,hR⟩=> ⟨r0,r1,he,hr _ _ _ hR⟩
def C24 (w : World) (R : (Int × Int × Int × Int × Int × Int) -> World -> Prop) : Prop :=
 Calls Tryz.prog 24 #[] w fun e w'=> ∃ r0 : Int × Int × Int × Int × Int × Int,e = .returned (.agg #[.int .i64 (r0.1),.int .i64 (r0.2.1),.int .i64 (r0.2.2.1),.int .i64 (r0.2.2.2.1),.int .i64 (r0.2.2.2.2.1),.int .i64 (r0.2.2.2.2.2)]) /\ R r0 w'
theorem C24.mono {w : World} {R R' : (Int × Int × Int × Int × Int × Int) -> World -> Prop} (h : C24 w R) (hr : ∀ r0 w',R r0 w' -> R' r0 w') : C24 w R' :=
 Calls.mono h fun _ _ ⟨r0,he,hR⟩=> ⟨r0,he,hr _ _ hR⟩
def C116 (x1 : Int) (y2 : Int) (w : World) (R : (Int × Int × Int × Int × Int × Int) -> World -> Prop) : Prop :=
 Calls Tryz.prog 116 #[.int .i64 x1,.int .i64 y2] w fun e w'=> ∃ r0 : Int × Int × Int × Int × Int × Int,e = .returned (.agg #[.int .i64 (r0.1),.int .i64 (r0.2.1),.int .i64 (r0.2.2.1),.int .i64 (r0.2.2.2.1),.int .i64 (r0.2.2.2.2.1),.int .i64 (r0.2.2.2.2.2)]) /\ R r0 w'
theorem C116.mono {x1 : Int} {y2 : Int} {w : World} {R R' : (Int × Int × Int × Int × Int × Int) -> World -> Prop} (h : C116 x1 y2 w R) (hr : ∀ r0 w',R r0 w' -> R' r0 w') : C116 x1 y2 w R' :=
 Calls.mono h fun _ _ ⟨r0,he,hR⟩=> ⟨r0,he,hr _ _ hR⟩
def C86 (l1 : Slc) (w : World) (R : Bool -> World -> Prop) : Prop :=
 Calls Tryz.prog 86 #[Slc.v l1] w fun e w'=> ∃ r0 : Bool,e = .returned (.bool r0) /\ R r0 w'
theorem C86.mono {l1 : Slc} {w : World} {R R' : Bool -> World -> Prop} (h : C86 l1 w R) (hr : ∀ r0 w',R r0 w' -> R' r0 w') : C86 l1 w R' :=
 Calls.mono h fun _ _ ⟨r0,he,hR⟩=> ⟨r0,he,hr _ _ hR⟩
def C49 (m1 : Int × Int × Int × Int × Int × Int) (w : World) (R : Int -> World -> Prop) : Prop :=
 Calls Tryz.prog 49 #[.agg #[.int .i64 (m1.1),.int .i64 (m1.2.1),.int .i64 (m1.2.2.1),.int .i64 (m1.2.2.2.1),.int .i64 (m1.2.2.2.2.1),.int .i64 (m1.2.2.2.2.2)]] w fun e w'=> ∃ r0 : Int,e = .returned (.int .i64 r0) /\ R r0 w'
theorem C49.mono {m1 : Int × Int × Int × Int × Int × Int} {w : World} {R R' : Int -> World -> Prop} (h : C49 m1 w R) (hr : ∀ r0 w',R r0 w' -> R' r0 w') : C49 m1 w R' :=
 Calls.mono h fun _ _ ⟨r0,he,hR⟩=> ⟨r0,he,hr _ _ hR⟩
def C85 (a1 : Int × Int × Int × Int × Int × Int) (b2 : Int × Int × Int × Int × Int × Int) (w : World) (R : (Int × Int × Int × Int × Int × Int) -> Int -> World -> Prop) : Prop :=
 Calls Tryz.prog 85 #[.agg #[.int .i64 (a1.1),.int .i64 (a1.2.1),.int .i64 (a1.2.2.1),.int .i64 (a1.2.2.2.1),.int .i64 (a1.2.2.2.2.1),.int .i64 (a1.2.2.2.2.2)],.agg #[.int .i64 (b2.1),.int .i64 (b2.2.1),.int .i64 (b2.2.2.1),.int .i64 (b2.2.2.2.1),.int .i64 (b2.2.2.2.2.1),.int .i64 (b2.2.2.2.2.2)]] w fun e w'=> ∃ r0 : Int × Int × Int × Int × Int × Int,∃ r1 : Int,e = .returned (.tuple #[.agg #[.int .i64 (r0.1),.int .i64 (r0.2.1),.int .i64 (r0.2.2.1),.int .i64 (r0.2.2.2.1),.int .i64 (r0.2.2.2.2.1),.int .i64 (r0.2.2.2.2.2)],.int .i64 r1]) /\ R r0 r1 w'
theorem C85.mono {a1 : Int × Int × Int × Int × Int × Int} {b2 : Int × Int × Int × Int × Int × Int} {w : World} {R R' : (Int × Int × Int × Int × Int × Int) -> Int -> World -> Prop} (h : C85 a1 b2 w R) (hr : ∀ r0 r1 w',R r0 r1 w' -> R' r0 r1 w') : C85 a1 b2 w R' :=
 Calls.mono h fun _ _ ⟨r0,r1,he,hR⟩=> ⟨r0,r1,he,hr _ _ _ hR⟩
def C136 (m1 : Int × Int × Int × Int × Int × Int) (p2 : Int × Int) (w : World) (R : (Int × Int) -> Int -> World -> Prop) : Prop :=
 Calls Tryz.prog 136 #[.agg #[.int .i64 (m1.1),.int .i64 (m1.2.1),.int .i64 (m1.2.2.1),.int .i64 (m1.2.2.2.1),.int .i64 (m1.2.2.2.2.1),.int .i64 (m1.2.2.2.2.2)],.agg #[.int .i64 (p2.1),.int .i64 (p2.2)]] w fun e w'=> ∃ r0 : Int × Int,∃ r1 : Int,e = .returned (.tuple #[.agg #[.int .i64 (r0.1),.int .i64 (r0.2)],.int .i64 r1]) /\ R r0 r1 w'
theorem C136.mono {m1 : Int × Int × Int × Int × Int × Int} {p2 : Int × Int} {w : World} {R R' : (Int × Int) -> Int -> World -> Prop} (h : C136 m1 p2 w R) (hr : ∀ r0 r1 w',R r0 r1 w' -> R' r0 r1 w') : C136 m1 p2 w R' :=
 Calls.mono h fun _ _ ⟨r0,r1,he,hR⟩=> ⟨r0,r1,he,hr _ _ _ hR⟩
def C137 (m1 : Int × Int × Int × Int × Int × Int) (p2 : Int × Int) (w : World) (R : Int -> Int -> World -> Prop) : Prop :=
 Calls Tryz.prog 137 #[.agg #[.int .i64 (m1.1),.int .i64 (m1.2.1),.int .i64 (m1.2.2.1),.int .i64 (m1.2.2.2.1),.int .i64 (m1.2.2.2.2.1),.int .i64 (m1.2.2.2.2.2)],.agg #[.int .i64 (p2.1),.int .i64 (p2.2)]] w fun e w'=> ∃ r0 : Int,∃ r1 : Int,e = .returned (.tuple #[.int .i64 r0,.int .i64 r1]) /\ R r0 r1 w'
theorem C137.mono {m1 : Int × Int × Int × Int × Int × Int} {p2 : Int × Int} {w : World} {R R' : Int -> Int -> World -> Prop} (h : C137 m1 p2 w R) (hr : ∀ r0 r1 w',R r0 r1 w' -> R' r0 r1 w') : C137 m1 p2 w R' :=
 Calls.mono h fun _ _ ⟨r0,r1,he,hR⟩=> ⟨r0,r1,he,hr _ _ _ hR⟩
def C22 (w : World) (R : (Int × Int × Int × Int × Int × Int) -> World -> Prop) : Prop :=
 Calls Tryz.prog 22 #[] w fun e w'=> ∃ r0 : Int × Int × Int × Int × Int × Int,e = .returned (.agg #[.int .i64 (r0.1),.int .i64 (r0.2.1),.int .i64 (r0.2.2.1),.int .i64 (r0.2.2.2.1),.int .i64 (r0.2.2.2.2.1),.int .i64 (r0.2.2.2.2.2)]) /\ R r0 w'
theorem C22.mono {w : World} {R R' : (Int × Int × Int × Int × Int × Int) -> World -> Prop} (h : C22 w R) (hr : ∀ r0 w',R r0 w' -> R' r0 w') : C22 w R' :=
 Calls.mono h fun _ _ ⟨r0,he,hR⟩=> ⟨r0,he,hr _ _ hR⟩
def C20 (x1 : Int) (y2 : Int) (w : World) (R : (Int × Int × Int × Int × Int × Int) -> World -> Prop) : Prop :=
 Calls Tryz.prog 20 #[.int .i64 x1,.int .i64 y2] w fun e w'=> ∃ r0 : Int × Int × Int × Int × Int × Int,e = .returned (.agg #[.int .i64 (r0.1),.int .i64 (r0.2.1),.int .i64 (r0.2.2.1),.int .i64 (r0.2.2.2.1),.int .i64 (r0.2.2.2.2.1),.int .i64 (r0.2.2.2.2.2)]) /\ R r0 w'
theorem C20.mono {x1 : Int} {y2 : Int} {w : World} {R R' : (Int × Int × Int × Int × Int × Int) -> World -> Prop} (h : C20 x1 y2 w R) (hr : ∀ r0 w',R r0 w' -> R' r0 w') : C20 x1 y2 w R' :=
 Calls.mono h fun _ _ ⟨r0,he,hR⟩=> ⟨r0,he,hr _ _ hR⟩
def S93 (m1 : Option Addr) (w : World) (R : (Option Addr × Option Addr × Option Addr × Option Addr × Option Addr × Option Addr) -> World -> Prop) : Prop :=
 Nw w (.cells #[.pointer none,.pointer none,.pointer none,.pointer none,.pointer none,.pointer none] 139) fun z2=>
 Nn m1 fun a3=>
 Nn m1 fun a4=>
 Nn m1 fun a5=>
 Nn m1 fun a6=>
 Nn m1 fun a7=>
 Nn m1 fun a8=>
 St z2.drew ⟨w.heap.size,0,none⟩ (.pointer (some a3)) fun z9=>
 St z9 (.add ⟨w.heap.size,0,none⟩ 1) (.pointer (some (a4.add 1))) fun z10=>
 St z10 (.add ⟨w.heap.size,0,none⟩ 2) (.pointer (some (a5.add 2))) fun z11=>
 St z11 (.add ⟨w.heap.size,0,none⟩ 3) (.pointer (some (a6.add 3))) fun z12=>
 St z12 (.add ⟨w.heap.size,0,none⟩ 4) (.pointer (some (a7.add 4))) fun z13=>
 St z13 (.add ⟨w.heap.size,0,none⟩ 5) (.pointer (some (a8.add 5))) fun z14=>
 Ld z14 ⟨w.heap.size,0,none⟩ Value.pointer fun (x15 : Option Addr)=>
 Ld z14 (.add ⟨w.heap.size,0,none⟩ 1) Value.pointer fun (x16 : Option Addr)=>
 Ld z14 (.add ⟨w.heap.size,0,none⟩ 2) Value.pointer fun (x17 : Option Addr)=>
 Ld z14 (.add ⟨w.heap.size,0,none⟩ 3) Value.pointer fun (x18 : Option Addr)=>
 Ld z14 (.add ⟨w.heap.size,0,none⟩ 4) Value.pointer fun (x19 : Option Addr)=>
 Ld z14 (.add ⟨w.heap.size,0,none⟩ 5) Value.pointer fun (x20 : Option Addr)=>
 R (x15,x16,x17,x18,x19,x20) z14
def pl93 : Plan := (.q (.seq (.reg (.tail 18)) .leaf))
theorem T93 (m1 : Option Addr) (w : World) (R : (Option Addr × Option Addr × Option Addr × Option Addr × Option Addr × Option Addr) -> World -> Prop) (h : S93 m1 w R) : C93 m1 w R := by
 have e : fnT Tryz.prog ⟨FF,MAY,(fun _ _=> False)⟩ pl93 Tryz.f93 [.pointer m1] w [(.agg [.ptr,.ptr,.ptr,.ptr,.ptr,.ptr])] (fun s w=> R s w) = S93 m1 w R := by kernel_rfl
 exact (fn_calls okF okM Tryz.func93 (by kernel_rfl) (by kernel_rfl) (e.mpr h)).mono fun _ _ ⟨s,he,hR⟩=> ⟨s,he,hR⟩
def S94 (n1 : Int) (w : World) (R : Bool -> World -> Prop) : Prop :=
 Br (decide (n1 < (-1073741824))) (R true w) (R (decide (n1 > 1073741824)) w)
def pl94 : Plan := (.q (.q .leaf))
theorem T94 (n1 : Int) (w : World) (R : Bool -> World -> Prop) (h : S94 n1 w R) : C94 n1 w R := by
 have e : fnT Tryz.prog ⟨FF,MAY,(fun _ _=> False)⟩ pl94 Tryz.f94 [.int .i64 n1] w [(.one .bool)] (fun s w=> R s w) = S94 n1 w R := by kernel_rfl
 exact (fn_calls okF okM Tryz.func94 (by kernel_rfl) (by kernel_rfl) (e.mpr h)).mono fun _ _ ⟨s,he,hR⟩=> ⟨s,he,hR⟩
def S57L1 (r3 : Option Addr × Option Addr × Option Addr × Option Addr × Option Addr × Option Addr) (R : Int -> World -> Prop) (I7 : Int -> World -> Prop) (s5 : Int) (z6 : World) : Prop :=
 Br (decide (s5 < 6)) (0 <= s5 /\ s5 < (6 : Nat) /\ ∃ x8 : Option Addr,(#[.pointer r3.1,.pointer r3.2.1,.pointer r3.2.2.1,.pointer r3.2.2.2.1,.pointer r3.2.2.2.2.1,.pointer r3.2.2.2.2.2] : Array Value)[(s5).toNat * 1]? = some (.pointer x8) /\ Nn x8 fun a9=>
  Ld z6 a9 (.int .i64) fun x10=>
  C94 x10 z6 fun r11 z12=>
   Br r11 (R 2 z12) (I7 (IntKind.i64.wrap (s5 + 1)) z12)) (R 0 z6)
def S57 (m1 : Int × Int × Int × Int × Int × Int) (w : World) (R : Int -> World -> Prop) : Prop :=
 Nw w (.cells #[.int .i64 (m1.1),.int .i64 (m1.2.1),.int .i64 (m1.2.2.1),.int .i64 (m1.2.2.2.1),.int .i64 (m1.2.2.2.2.1),.int .i64 (m1.2.2.2.2.2)] 24) fun z2=>
 C93 (some ⟨w.heap.size,0,none⟩) z2 fun r3 z4=>
  Lp (σ := Int) (S57L1 r3 R) 0 z4
def pl57 : Plan := (.q (.seq (.q (.block (.loop [(6,(.one (.int .i64)))] [5] (.q (.seq (.cond .leaf .leaf) (.seq (.block (.q (.q (.cond (.q .leaf) .leaf)))) (.reg .seq))))))) (.q .leaf)))
theorem T57 (m1 : Int × Int × Int × Int × Int × Int) (w : World) (R : Int -> World -> Prop) (h : S57 m1 w R) : C57 (m1.1,m1.2.1,m1.2.2.1,m1.2.2.2.1,m1.2.2.2.2.1,m1.2.2.2.2.2) w R := by
 have e : fnT Tryz.prog ⟨FF,MAY,(fun _ _=> False)⟩ pl57 Tryz.f57 [.agg #[.int .i64 (m1.1),.int .i64 (m1.2.1),.int .i64 (m1.2.2.1),.int .i64 (m1.2.2.2.1),.int .i64 (m1.2.2.2.2.1),.int .i64 (m1.2.2.2.2.2)]] w [(.one (.int .i64))] (fun s w=> R s w) = S57 m1 w R := by kernel_rfl
 exact (fn_calls okF okM Tryz.func57 (by kernel_rfl) (by kernel_rfl) (e.mpr h)).mono fun _ _ ⟨s,he,hR⟩=> ⟨s,he,hR⟩
def S133_nil (why2 : Option Addr) (w : World) (R : World -> Prop) (PR : Value -> World -> Prop) : Prop :=
 R w
def pl133_nil : Plan := (.q (.block (.q (.cond (.reg .seq) (.q (.cond (.q (.reg .seq)) (.q (.reg .seq))))))))
theorem T133_nil (why2 : Option Addr) (w : World) (R : World -> Prop) (PR : Value -> World -> Prop) (h : S133_nil why2 w R PR) : C133 Value.nilIface why2 w R PR := by
 have e : fnT Tryz.prog ⟨FF,MAY,PR⟩ pl133_nil Tryz.f133 [Value.nilIface,.pointer why2] w [] (fun _ w=> R w) = S133_nil why2 w R PR := by kernel_rfl
 exact (fn_callsP okF okM Tryz.func133 (by kernel_rfl) (by kernel_rfl) (e.mpr h)).mono fun _ _ he=> he.elim (fun ⟨_,he,hR⟩=> .inl ⟨he,hR⟩) .inr
def S133_T191 (x2 : Int) (why3 : Option Addr) (w : World) (R : World -> Prop) (PR : Value -> World -> Prop) : Prop :=
 Nw w (.cells #[.int .i64 0] 191) fun z4=>
 St z4 ⟨w.heap.size,0,none⟩ (.int .i64 x2) fun z5=>
 Ld z5 ⟨w.heap.size,0,none⟩ (.int .i64) fun x6=>
 Nn why3 fun a7=>
 St z5 a7 (.int .i64 x6) fun z8=>
 R z8
def pl133_T191 : Plan := (.q (.block (.q (.cond (.reg .seq) (.q (.cond (.q (.reg .seq)) (.q (.reg .seq))))))))
theorem T133_T191 (x2 : Int) (why3 : Option Addr) (w : World) (R : World -> Prop) (PR : Value -> World -> Prop) (h : S133_T191 x2 why3 w R PR) : C133 (.iface 191 (.agg #[.int .i64 x2])) why3 w R PR := by
 have e : fnT Tryz.prog ⟨FF,MAY,PR⟩ pl133_T191 Tryz.f133 [.iface 191 (.agg #[.int .i64 x2]),.pointer why3] w [] (fun _ w=> R w) = S133_T191 x2 why3 w R PR := by kernel_rfl
 exact (fn_callsP okF okM Tryz.func133 (by kernel_rfl) (by kernel_rfl) (e.mpr h)).mono fun _ _ he=> he.elim (fun ⟨_,he,hR⟩=> .inl ⟨he,hR⟩) .inr
def S132_nil (c1 : Addr) (c2 : Addr) (w : World) (R : World -> Prop) : Prop :=
 C133 Value.nilIface (some c1) w (fun z3=>
  Ld z3 c1 (.int .i64) fun x4=>
  Br (x4 != 0) (St z3 c2 (.int .i64 0) fun z5=>
   St z5 (c2.add 1) (.int .i64 0) fun z6=>
   St z6 (c2.add 2) (.int .i64 0) fun z7=>
   St z7 (c2.add 3) (.int .i64 0) fun z8=>
   St z8 (c2.add 4) (.int .i64 0) fun z9=>
   St z9 (c2.add 5) (.int .i64 0) fun z10=>
   R z10) (R z3)) (fun _ _=> False)
def pl132_nil : Plan := (.q (.cond (.reg .seq) .leaf))
theorem T132_nil (c1 : Addr) (c2 : Addr) (w : World) (R : World -> Prop) (h : S132_nil c1 c2 w R) : CD132 c1 c2 none w R := by
 have e : fnTS Tryz.prog FF MAY pl132_nil Tryz.f132 [.pointer (some c1),.pointer (some c2)] none w R = S132_nil c1 c2 w R := by kernel_rfl
 exact fnS_calls okF okM Tryz.func132 (by kernel_rfl) (by kernel_rfl) (e.mpr h)
def S132_T191 (c1 : Addr) (c2 : Addr) (u3 : Int) (w : World) (R : World -> Prop) : Prop :=
 C133 (.iface 191 (.agg #[.int .i64 u3])) (some c1) w (fun z4=>
  Ld z4 c1 (.int .i64) fun x5=>
  Br (x5 != 0) (St z4 c2 (.int .i64 0) fun z6=>
   St z6 (c2.add 1) (.int .i64 0) fun z7=>
   St z7 (c2.add 2) (.int .i64 0) fun z8=>
   St z8 (c2.add 3) (.int .i64 0) fun z9=>
   St z9 (c2.add 4) (.int .i64 0) fun z10=>
   St z10 (c2.add 5) (.int .i64 0) fun z11=>
   R z11) (R z4)) (fun _ _=> False)
def pl132_T191 : Plan := (.q (.cond (.reg .seq) .leaf))
theorem T132_T191 (c1 : Addr) (c2 : Addr) (u3 : Int) (w : World) (R : World -> Prop) (h : S132_T191 c1 c2 u3 w R) : CD132 c1 c2 (some (.iface 191 (.agg #[.int .i64 u3]))) w R := by
 have e : fnTS Tryz.prog FF MAY pl132_T191 Tryz.f132 [.pointer (some c1),.pointer (some c2)] (some (.iface 191 (.agg #[.int .i64 u3]))) w R = S132_T191 c1 c2 u3 w R := by kernel_rfl
 exact fnS_calls okF okM Tryz.func132 (by kernel_rfl) (by kernel_rfl) (e.mpr h)
def S134 (why1 : Int) (w : World) (R : World -> Prop) (PR : Value -> World -> Prop) : Prop :=
 Br (why1 != 0) (PR (.iface 191 (.agg #[.int .i64 why1])) w) (R w)
def pl134 : Plan := (.q (.cond (.reg .seq) .leaf))
theorem T134 (why1 : Int) (w : World) (R : World -> Prop) (PR : Value -> World -> Prop) (h : S134 why1 w R PR) : C134 why1 w R PR := by
 have e : fnT Tryz.prog ⟨FF,MAY,PR⟩ pl134 Tryz.f134 [.int .i64 why1] w [] (fun _ w=> R w) = S134 why1 w R PR := by kernel_rfl
 exact (fn_callsP okF okM Tryz.func134 (by kernel_rfl) (by kernel_rfl) (e.mpr h)).mono fun _ _ he=> he.elim (fun ⟨_,he,hR⟩=> .inl ⟨he,hR⟩) .inr
def S135 (l1 : Slc) (w : World) (R : Int -> World -> Prop) (PR : Value -> World -> Prop) : Prop :=
 C147 l1 w fun r2 r3 z4=>
  C134 r3 z4 (fun z5=>
   C94 r2 z5 fun r6 z7=>
    Br r6 (C134 2 z7 (fun z8=>
      R r2 z8) PR) (R r2 z7)) PR
def pl135 : Plan := (.q (.q (.q (.seq (.q (.cond (.reg .seq) .leaf)) (.q .leaf)))))
theorem T135 (l1 : Slc) (w : World) (R : Int -> World -> Prop) (PR : Value -> World -> Prop) (h : S135 l1 w R PR) : C135 l1 w R PR := by
 have e : fnT Tryz.prog ⟨FF,MAY,PR⟩ pl135 Tryz.f135 [Slc.v l1] w [(.one (.int .i64))] (fun s w=> R s w) = S135 l1 w R PR := by kernel_rfl
 exact (fn_callsP okF okM Tryz.func135 (by kernel_rfl) (by kernel_rfl) (e.mpr h)).mono fun _ _ he=> he.elim (fun ⟨s,he,hR⟩=> .inl ⟨s,he,hR⟩) .inr
def S115P (z4 : World) (z5 : World) (R : (Int × Int × Int × Int × Int × Int) -> Int -> World -> Prop) (x8 : Value) (z7 : World) : Prop :=
 CD132 ⟨z5.heap.size,0,none⟩ ⟨z4.heap.size,0,none⟩ (some x8) z7 fun z9=>
  Ld z9 ⟨z4.heap.size,0,none⟩ (.int .i64) fun x10=>
  Ld z9 (.add ⟨z4.heap.size,0,none⟩ 1) (.int .i64) fun x11=>
  Ld z9 (.add ⟨z4.heap.size,0,none⟩ 2) (.int .i64) fun x12=>
  Ld z9 (.add ⟨z4.heap.size,0,none⟩ 3) (.int .i64) fun x13=>
  Ld z9 (.add ⟨z4.heap.size,0,none⟩ 4) (.int .i64) fun x14=>
  Ld z9 (.add ⟨z4.heap.size,0,none⟩ 5) (.int .i64) fun x15=>
  Ld z9 ⟨z5.heap.size,0,none⟩ (.int .i64) fun x16=>
  R (x10,x11,x12,x13,x14,x15) x16 z9
def S115 (a1 : Int × Int × Int × Int × Int × Int) (b2 : Int × Int × Int × Int × Int × Int) (w : World) (R : (Int × Int × Int × Int × Int × Int) -> Int -> World -> Prop) : Prop :=
 Nw w (.cells #[.int .i64 (a1.1),.int .i64 (a1.2.1),.int .i64 (a1.2.2.1),.int .i64 (a1.2.2.2.1),.int .i64 (a1.2.2.2.2.1),.int .i64 (a1.2.2.2.2.2)] 24) fun z3=>
 Nw z3 (.cells #[.int .i64 (b2.1),.int .i64 (b2.2.1),.int .i64 (b2.2.2.1),.int .i64 (b2.2.2.2.1),.int .i64 (b2.2.2.2.2.1),.int .i64 (b2.2.2.2.2.2)] 24) fun z4=>
 Nw z4 (.cells #[.int .i64 0,.int .i64 0,.int .i64 0,.int .i64 0,.int .i64 0,.int .i64 0] 24) fun z5=>
 Nw z5 (.cells #[.int .i64 0] 43) fun z6=>
 Ld z6 ⟨w.heap.size,0,none⟩ (.int .i64) fun x17=>
 Ld z6 (.add ⟨w.heap.size,0,none⟩ 1) (.int .i64) fun x18=>
 Ld z6 (.add ⟨w.heap.size,0,none⟩ 2) (.int .i64) fun x19=>
 Ld z6 (.add ⟨w.heap.size,0,none⟩ 3) (.int .i64) fun x20=>
 Ld z6 (.add ⟨w.heap.size,0,none⟩ 4) (.int .i64) fun x21=>
 Ld z6 (.add ⟨w.heap.size,0,none⟩ 5) (.int .i64) fun x22=>
 C57 (x17,x18,x19,x20,x21,x22) z6 fun r23 z24=>
  C134 r23 z24 (fun z25=>
   Ld z25 ⟨z3.heap.size,0,none⟩ (.int .i64) fun x26=>
   Ld z25 (.add ⟨z3.heap.size,0,none⟩ 1) (.int .i64) fun x27=>
   Ld z25 (.add ⟨z3.heap.size,0,none⟩ 2) (.int .i64) fun x28=>
   Ld z25 (.add ⟨z3.heap.size,0,none⟩ 3) (.int .i64) fun x29=>
   Ld z25 (.add ⟨z3.heap.size,0,none⟩ 4) (.int .i64) fun x30=>
   Ld z25 (.add ⟨z3.heap.size,0,none⟩ 5) (.int .i64) fun x31=>
   C57 (x26,x27,x28,x29,x30,x31) z25 fun r32 z33=>
    C134 r32 z33 (fun z34=>
     ∃ vS35 : World -> Prop,vS35 z34.drew /\ LdS vS35 ⟨w.heap.size,0,none⟩ (.int .i64) fun x36=>
     LdS vS35 ⟨z3.heap.size,0,none⟩ (.int .i64) fun x37=>
     LdS vS35 (.add ⟨w.heap.size,0,none⟩ 1) (.int .i64) fun x38=>
     LdS vS35 (.add ⟨z3.heap.size,0,none⟩ 2) (.int .i64) fun x39=>
     LdS vS35 ⟨w.heap.size,0,none⟩ (.int .i64) fun x40=>
     LdS vS35 (.add ⟨z3.heap.size,0,none⟩ 1) (.int .i64) fun x41=>
     LdS vS35 (.add ⟨w.heap.size,0,none⟩ 1) (.int .i64) fun x42=>
     LdS vS35 (.add ⟨z3.heap.size,0,none⟩ 3) (.int .i64) fun x43=>
     LdS vS35 (.add ⟨w.heap.size,0,none⟩ 2) (.int .i64) fun x44=>
     LdS vS35 ⟨z3.heap.size,0,none⟩ (.int .i64) fun x45=>
     LdS vS35 (.add ⟨w.heap.size,0,none⟩ 3) (.int .i64) fun x46=>
     LdS vS35 (.add ⟨z3.heap.size,0,none⟩ 2) (.int .i64) fun x47=>
     LdS vS35 (.add ⟨w.heap.size,0,none⟩ 2) (.int .i64) fun x48=>
     LdS vS35 (.add ⟨z3.heap.size,0,none⟩ 1) (.int .i64) fun x49=>
     LdS vS35 (.add ⟨w.heap.size,0,none⟩ 3) (.int .i64) fun x50=>
     LdS vS35 (.add ⟨z3.heap.size,0,none⟩ 3) (.int .i64) fun x51=>
     LdS vS35 (.add ⟨w.heap.size,0,none⟩ 4) (.int .i64) fun x52=>
     LdS vS35 ⟨z3.heap.size,0,none⟩ (.int .i64) fun x53=>
     LdS vS35 (.add ⟨w.heap.size,0,none⟩ 5) (.int .i64) fun x54=>
     LdS vS35 (.add ⟨z3.heap.size,0,none⟩ 2) (.int .i64) fun x55=>
     LdS vS35 (.add ⟨z3.heap.size,0,none⟩ 4) (.int .i64) fun x56=>
     LdS vS35 (.add ⟨w.heap.size,0,none⟩ 4) (.int .i64) fun x57=>
     LdS vS35 (.add ⟨z3.heap.size,0,none⟩ 1) (.int .i64) fun x58=>
     LdS vS35 (.add ⟨w.heap.size,0,none⟩ 5) (.int .i64) fun x59=>
     LdS vS35 (.add ⟨z3.heap.size,0,none⟩ 3) (.int .i64) fun x60=>
     LdS vS35 (.add ⟨z3.heap.size,0,none⟩ 5) (.int .i64) fun x61=>
     ∃ le62 : World -> World -> Prop,∃ B63 : World -> Prop,B63 z34.drew /\ ∃ G64 : Slc -> World -> Prop,(∀ (x65 : Slc) (z66 : World) (z67 : World),le62 z66 z67 -> G64 x65 z66 -> G64 x65 z67) /\
     ∃ G68 : Int -> World -> Prop,(∀ (x69 : Int) (z70 : World) (z71 : World),le62 z70 z71 -> G68 x69 z70 -> G68 x69 z71) /\
     ∃ G72 : Slc -> World -> Prop,(∀ (x73 : Slc) (z74 : World) (z75 : World),le62 z74 z75 -> G72 x73 z74 -> G72 x73 z75) /\
     ∃ G76 : Int -> World -> Prop,(∀ (x77 : Int) (z78 : World) (z79 : World),le62 z78 z79 -> G76 x77 z78 -> G76 x77 z79) /\
     ∃ G80 : Slc -> World -> Prop,(∀ (x81 : Slc) (z82 : World) (z83 : World),le62 z82 z83 -> G80 x81 z82 -> G80 x81 z83) /\
     ∃ G84 : Int -> World -> Prop,(∀ (x85 : Int) (z86 : World) (z87 : World),le62 z86 z87 -> G84 x85 z86 -> G84 x85 z87) /\
     ∃ G88 : Slc -> World -> Prop,(∀ (x89 : Slc) (z90 : World) (z91 : World),le62 z90 z91 -> G88 x89 z90 -> G88 x89 z91) /\
     ∃ G92 : Int -> World -> Prop,(∀ (x93 : Int) (z94 : World) (z95 : World),le62 z94 z95 -> G92 x93 z94 -> G92 x93 z95) /\
     ∃ G96 : Slc -> World -> Prop,(∀ (x97 : Slc) (z98 : World) (z99 : World),le62 z98 z99 -> G96 x97 z98 -> G96 x97 z99) /\
     ∃ G100 : Int -> World -> Prop,(∀ (x101 : Int) (z102 : World) (z103 : World),le62 z102 z103 -> G100 x101 z102 -> G100 x101 z103) /\
     ∃ G104 : Slc -> World -> Prop,(∀ (x105 : Slc) (z106 : World) (z107 : World),le62 z106 z107 -> G104 x105 z106 -> G104 x105 z107) /\
     ((∀ (z108 : World),vS35 z108 -> B63 z108 -> Nw z108 (.cells #[.int .i64 x36,.int .i64 x37,.int .i64 x38,.int .i64 x39] 2) fun z109=>
      vS35 z109 /\ B63 z109 /\ le62 z108 z109 /\ ∃ x110 : Slc,(Slc.v ((⟨some ⟨z108.heap.size,0,none⟩,4,4⟩ : Slc)) : Value) = Slc.v x110 /\ G64 x110 z109) /\
     (∀ (z111 : World),vS35 z111 -> B63 z111 -> ∀ (x112 : Slc),G64 x112 z111 -> C135 x112 z111 (fun r113 z114=>
       vS35 z114 /\ B63 z114 /\ le62 z111 z114 /\ ∃ x115 : Int,(.int .i64 r113 : Value) = .int .i64 x115 /\ G68 x115 z114) (S115P z4 z5 R)) /\
     (∀ (z116 : World),vS35 z116 -> B63 z116 -> Nw z116 (.cells #[.int .i64 x40,.int .i64 x41,.int .i64 x42,.int .i64 x43] 2) fun z117=>
      vS35 z117 /\ B63 z117 /\ le62 z116 z117 /\ ∃ x118 : Slc,(Slc.v ((⟨some ⟨z116.heap.size,0,none⟩,4,4⟩ : Slc)) : Value) = Slc.v x118 /\ G72 x118 z117) /\
     (∀ (z119 : World),vS35 z119 -> B63 z119 -> ∀ (x120 : Slc),G72 x120 z119 -> C135 x120 z119 (fun r121 z122=>
       vS35 z122 /\ B63 z122 /\ le62 z119 z122 /\ ∃ x123 : Int,(.int .i64 r121 : Value) = .int .i64 x123 /\ G76 x123 z122) (S115P z4 z5 R)) /\
     (∀ (z124 : World),vS35 z124 -> B63 z124 -> Nw z124 (.cells #[.int .i64 x44,.int .i64 x45,.int .i64 x46,.int .i64 x47] 2) fun z125=>
      vS35 z125 /\ B63 z125 /\ le62 z124 z125 /\ ∃ x126 : Slc,(Slc.v ((⟨some ⟨z124.heap.size,0,none⟩,4,4⟩ : Slc)) : Value) = Slc.v x126 /\ G80 x126 z125) /\
     (∀ (z127 : World),vS35 z127 -> B63 z127 -> ∀ (x128 : Slc),G80 x128 z127 -> C135 x128 z127 (fun r129 z130=>
       vS35 z130 /\ B63 z130 /\ le62 z127 z130 /\ ∃ x131 : Int,(.int .i64 r129 : Value) = .int .i64 x131 /\ G84 x131 z130) (S115P z4 z5 R)) /\
     (∀ (z132 : World),vS35 z132 -> B63 z132 -> Nw z132 (.cells #[.int .i64 x48,.int .i64 x49,.int .i64 x50,.int .i64 x51] 2) fun z133=>
      vS35 z133 /\ B63 z133 /\ le62 z132 z133 /\ ∃ x134 : Slc,(Slc.v ((⟨some ⟨z132.heap.size,0,none⟩,4,4⟩ : Slc)) : Value) = Slc.v x134 /\ G88 x134 z133) /\
     (∀ (z135 : World),vS35 z135 -> B63 z135 -> ∀ (x136 : Slc),G88 x136 z135 -> C135 x136 z135 (fun r137 z138=>
       vS35 z138 /\ B63 z138 /\ le62 z135 z138 /\ ∃ x139 : Int,(.int .i64 r137 : Value) = .int .i64 x139 /\ G92 x139 z138) (S115P z4 z5 R)) /\
     (∀ (z140 : World),vS35 z140 -> B63 z140 -> Nw z140 (.cells #[.int .i64 x52,.int .i64 x53,.int .i64 x54,.int .i64 x55,.int .i64 x56,.int .i64 10000] 2) fun z141=>
      vS35 z141 /\ B63 z141 /\ le62 z140 z141 /\ ∃ x142 : Slc,(Slc.v ((⟨some ⟨z140.heap.size,0,none⟩,6,6⟩ : Slc)) : Value) = Slc.v x142 /\ G96 x142 z141) /\
     (∀ (z143 : World),vS35 z143 -> B63 z143 -> ∀ (x144 : Slc),G96 x144 z143 -> C135 x144 z143 (fun r145 z146=>
       vS35 z146 /\ B63 z146 /\ le62 z143 z146 /\ ∃ x147 : Int,(.int .i64 r145 : Value) = .int .i64 x147 /\ G100 x147 z146) (S115P z4 z5 R)) /\
     (∀ (z148 : World),vS35 z148 -> B63 z148 -> Nw z148 (.cells #[.int .i64 x57,.int .i64 x58,.int .i64 x59,.int .i64 x60,.int .i64 x61,.int .i64 10000] 2) fun z149=>
      vS35 z149 /\ B63 z149 /\ le62 z148 z149 /\ ∃ x150 : Slc,(Slc.v ((⟨some ⟨z148.heap.size,0,none⟩,6,6⟩ : Slc)) : Value) = Slc.v x150 /\ G104 x150 z149) /\
     True) /\
     (∀ (z151 : World),vS35 z151 -> B63 z151 -> ∀ (x152 : Slc),G64 x152 z151 -> ∀ (x153 : Int),G68 x153 z151 -> ∀ (x154 : Slc),G72 x154 z151 -> ∀ (x155 : Int),G76 x155 z151 -> ∀ (x156 : Slc),G80 x156 z151 -> ∀ (x157 : Int),G84 x157 z151 -> ∀ (x158 : Slc),G88 x158 z151 -> ∀ (x159 : Int),G92 x159 z151 -> ∀ (x160 : Slc),G96 x160 z151 -> ∀ (x161 : Int),G100 x161 z151 -> ∀ (x162 : Slc),G104 x162 z151 -> C135 x162 z151 (fun r163 z164=>
       St z164 ⟨z4.heap.size,0,none⟩ (.int .i64 x153) fun z165=>
       St z165 (.add ⟨z4.heap.size,0,none⟩ 1) (.int .i64 x155) fun z166=>
       St z166 (.add ⟨z4.heap.size,0,none⟩ 2) (.int .i64 x157) fun z167=>
       St z167 (.add ⟨z4.heap.size,0,none⟩ 3) (.int .i64 x159) fun z168=>
       St z168 (.add ⟨z4.heap.size,0,none⟩ 4) (.int .i64 x161) fun z169=>
       St z169 (.add ⟨z4.heap.size,0,none⟩ 5) (.int .i64 r163) fun z170=>
       St z170 ⟨z5.heap.size,0,none⟩ (.int .i64 0) fun z171=>
       CD132 ⟨z5.heap.size,0,none⟩ ⟨z4.heap.size,0,none⟩ none z171 fun z172=>
        Ld z172 ⟨z4.heap.size,0,none⟩ (.int .i64) fun x173=>
        Ld z172 (.add ⟨z4.heap.size,0,none⟩ 1) (.int .i64) fun x174=>
        Ld z172 (.add ⟨z4.heap.size,0,none⟩ 2) (.int .i64) fun x175=>
        Ld z172 (.add ⟨z4.heap.size,0,none⟩ 3) (.int .i64) fun x176=>
        Ld z172 (.add ⟨z4.heap.size,0,none⟩ 4) (.int .i64) fun x177=>
        Ld z172 (.add ⟨z4.heap.size,0,none⟩ 5) (.int .i64) fun x178=>
        Ld z172 ⟨z5.heap.size,0,none⟩ (.int .i64) fun x179=>
        R (x173,x174,x175,x176,x177,x178) x179 z172) (S115P z4 z5 R))) (S115P z4 z5 R)) (S115P z4 z5 R)
def pl115 : DPlan := (.pre (.reg .seq) (.here [4,5] (.q (.q (.seq (.reg (.held [63] (.take 0 (.take 1 (.take 2 (.take 3 (.take 4 (.take 5 (.take 6 (.take 7 (.take 10 (.take 11 (.take 12 (.take 13 (.take 14 (.take 15 (.take 16 (.take 17 (.take 20 (.take 21 (.take 22 (.take 23 (.take 24 (.take 25 (.take 26 (.take 27 (.take 30 (.take 31 (.take 32 (.take 33 (.take 34 (.take 35 (.take 36 (.take 37 (.take 40 (.take 41 (.take 42 (.take 43 (.take 44 (.take 45 (.take 46 (.take 47 (.take 48 (.take 49 (.take 52 (.take 53 (.take 54 (.take 55 (.take 56 (.take 57 (.take 58 (.take 59 (.take 60 (.take 61 (.mono [8,9,18,19,28,29,38,39,50,51,62] (.eff 63 (some [64]) (.eff 64 (some [65]) (.eff 65 (some [66]) (.eff 66 (some []) .done))))))))))))))))))))))))))))))))))))))))))))))))))))))))))) .leaf)))))
theorem T115 (a1 : Int × Int × Int × Int × Int × Int) (b2 : Int × Int × Int × Int × Int × Int) (w : World) (R : (Int × Int × Int × Int × Int × Int) -> Int -> World -> Prop) (h : S115 a1 b2 w R) : C115 (a1.1,a1.2.1,a1.2.2.1,a1.2.2.2.1,a1.2.2.2.2.1,a1.2.2.2.2.2) (b2.1,b2.2.1,b2.2.2.1,b2.2.2.2.1,b2.2.2.2.2.1,b2.2.2.2.2.2) w R := by
 have e : fnTD Tryz.prog FF MAY (fun _ _=> False) pl115 Tryz.f115 [.agg #[.int .i64 (a1.1),.int .i64 (a1.2.1),.int .i64 (a1.2.2.1),.int .i64 (a1.2.2.2.1),.int .i64 (a1.2.2.2.2.1),.int .i64 (a1.2.2.2.2.2)],.agg #[.int .i64 (b2.1),.int .i64 (b2.2.1),.int .i64 (b2.2.2.1),.int .i64 (b2.2.2.2.1),.int .i64 (b2.2.2.2.2.1),.int .i64 (b2.2.2.2.2.2)]] w [(.agg [(.int .i64),(.int .i64),(.int .i64),(.int .i64),(.int .i64),(.int .i64)]),(.one (.int .i64))] (fun s w=> R s.1 s.2 w) = S115 a1 b2 w R := by kernel_rfl
 exact (fnD_calls okF okM Tryz.func115 (by kernel_rfl) (by kernel_rfl) (e.mpr h)).mono fun _ _ ⟨s,he,hR⟩=> ⟨s.1,s.2,he,hR⟩
def S142_nil (c1 : Addr) (c2 : Addr) (w : World) (R : World -> Prop) : Prop :=
 C133 Value.nilIface (some c1) w (fun z3=>
  Ld z3 c1 (.int .i64) fun x4=>
  Br (x4 != 0) (St z3 c2 (.int .i64 0) fun z5=>
   St z5 (c2.add 1) (.int .i64 0) fun z6=>
   R z6) (R z3)) (fun _ _=> False)
def pl142_nil : Plan := (.q (.cond (.reg .seq) .leaf))
theorem T142_nil (c1 : Addr) (c2 : Addr) (w : World) (R : World -> Prop) (h : S142_nil c1 c2 w R) : CD142 c1 c2 none w R := by
 have e : fnTS Tryz.prog FF MAY pl142_nil Tryz.f142 [.pointer (some c1),.pointer (some c2)] none w R = S142_nil c1 c2 w R := by kernel_rfl
 exact fnS_calls okF okM Tryz.func142 (by kernel_rfl) (by kernel_rfl) (e.mpr h)
def S142_T191 (c1 : Addr) (c2 : Addr) (u3 : Int) (w : World) (R : World -> Prop) : Prop :=
 C133 (.iface 191 (.agg #[.int .i64 u3])) (some c1) w (fun z4=>
  Ld z4 c1 (.int .i64) fun x5=>
  Br (x5 != 0) (St z4 c2 (.int .i64 0) fun z6=>
   St z6 (c2.add 1) (.int .i64 0) fun z7=>
   R z7) (R z4)) (fun _ _=> False)
def pl142_T191 : Plan := (.q (.cond (.reg .seq) .leaf))
theorem T142_T191 (c1 : Addr) (c2 : Addr) (u3 : Int) (w : World) (R : World -> Prop) (h : S142_T191 c1 c2 u3 w R) : CD142 c1 c2 (some (.iface 191 (.agg #[.int .i64 u3]))) w R := by
 have e : fnTS Tryz.prog FF MAY pl142_T191 Tryz.f142 [.pointer (some c1),.pointer (some c2)] (some (.iface 191 (.agg #[.int .i64 u3]))) w R = S142_T191 c1 c2 u3 w R := by kernel_rfl
 exact fnS_calls okF okM Tryz.func142 (by kernel_rfl) (by kernel_rfl) (e.mpr h)
def S122P (z4 : World) (z5 : World) (R : (Int × Int) -> Int -> World -> Prop) (x8 : Value) (z7 : World) : Prop :=
 CD142 ⟨z5.heap.size,0,none⟩ ⟨z4.heap.size,0,none⟩ (some x8) z7 fun z9=>
  Ld z9 ⟨z4.heap.size,0,none⟩ (.int .i64) fun x10=>
  Ld z9 (.add ⟨z4.heap.size,0,none⟩ 1) (.int .i64) fun x11=>
  Ld z9 ⟨z5.heap.size,0,none⟩ (.int .i64) fun x12=>
  R (x10,x11) x12 z9
def S122J1 (w : World) (z3 : World) (z4 : World) (z5 : World) (R : (Int × Int) -> Int -> World -> Prop) (s30 : Unit) (z31 : World) : Prop :=
 ∃ vS32 : World -> Prop,vS32 z31.drew /\ LdS vS32 ⟨z3.heap.size,0,none⟩ (.int .i64) fun x33=>
 LdS vS32 ⟨w.heap.size,0,none⟩ (.int .i64) fun x34=>
 LdS vS32 (.add ⟨z3.heap.size,0,none⟩ 1) (.int .i64) fun x35=>
 LdS vS32 (.add ⟨w.heap.size,0,none⟩ 2) (.int .i64) fun x36=>
 LdS vS32 (.add ⟨w.heap.size,0,none⟩ 4) (.int .i64) fun x37=>
 LdS vS32 ⟨z3.heap.size,0,none⟩ (.int .i64) fun x38=>
 LdS vS32 (.add ⟨w.heap.size,0,none⟩ 1) (.int .i64) fun x39=>
 LdS vS32 (.add ⟨z3.heap.size,0,none⟩ 1) (.int .i64) fun x40=>
 LdS vS32 (.add ⟨w.heap.size,0,none⟩ 3) (.int .i64) fun x41=>
 LdS vS32 (.add ⟨w.heap.size,0,none⟩ 5) (.int .i64) fun x42=>
 (Nw z31.drew (.cells #[.int .i64 x33,.int .i64 x34,.int .i64 x35,.int .i64 x36,.int .i64 x37,.int .i64 10000] 2) fun z43=>
  vS32 z43 /\ (C135 (⟨some ⟨z31.drew.heap.size,0,none⟩,6,6⟩ : Slc) z43 (fun r44 z45=>
    vS32 z45 /\ Nw z45 (.cells #[.int .i64 x38,.int .i64 x39,.int .i64 x40,.int .i64 x41,.int .i64 x42,.int .i64 10000] 2) fun z46=>
    vS32 z46 /\ C135 (⟨some ⟨z45.heap.size,0,none⟩,6,6⟩ : Slc) z46 (fun r47 z48=>
     St z48 ⟨z4.heap.size,0,none⟩ (.int .i64 r44) fun z49=>
     St z49 (.add ⟨z4.heap.size,0,none⟩ 1) (.int .i64 r47) fun z50=>
     St z50 ⟨z5.heap.size,0,none⟩ (.int .i64 0) fun z51=>
     CD142 ⟨z5.heap.size,0,none⟩ ⟨z4.heap.size,0,none⟩ none z51 fun z52=>
      Ld z52 ⟨z4.heap.size,0,none⟩ (.int .i64) fun x53=>
      Ld z52 (.add ⟨z4.heap.size,0,none⟩ 1) (.int .i64) fun x54=>
      Ld z52 ⟨z5.heap.size,0,none⟩ (.int .i64) fun x55=>
      R (x53,x54) x55 z52) (S122P z4 z5 R)) (S122P z4 z5 R)) /\
  (Nw z43 (.cells #[.int .i64 x38,.int .i64 x39,.int .i64 x40,.int .i64 x41,.int .i64 x42,.int .i64 10000] 2) fun z56=>
   vS32 z56 /\ C135 (⟨some ⟨z31.drew.heap.size,0,none⟩,6,6⟩ : Slc) z56 (fun r57 z58=>
    vS32 z58 /\ C135 (⟨some ⟨z43.heap.size,0,none⟩,6,6⟩ : Slc) z58 (fun r59 z60=>
     St z60 ⟨z4.heap.size,0,none⟩ (.int .i64 r57) fun z61=>
     St z61 (.add ⟨z4.heap.size,0,none⟩ 1) (.int .i64 r59) fun z62=>
     St z62 ⟨z5.heap.size,0,none⟩ (.int .i64 0) fun z63=>
     CD142 ⟨z5.heap.size,0,none⟩ ⟨z4.heap.size,0,none⟩ none z63 fun z64=>
      Ld z64 ⟨z4.heap.size,0,none⟩ (.int .i64) fun x65=>
      Ld z64 (.add ⟨z4.heap.size,0,none⟩ 1) (.int .i64) fun x66=>
      Ld z64 ⟨z5.heap.size,0,none⟩ (.int .i64) fun x67=>
      R (x65,x66) x67 z64) (S122P z4 z5 R)) (S122P z4 z5 R))) /\
 (Nw z31.drew (.cells #[.int .i64 x38,.int .i64 x39,.int .i64 x40,.int .i64 x41,.int .i64 x42,.int .i64 10000] 2) fun z68=>
  vS32 z68 /\ Nw z68 (.cells #[.int .i64 x33,.int .i64 x34,.int .i64 x35,.int .i64 x36,.int .i64 x37,.int .i64 10000] 2) fun z69=>
  vS32 z69 /\ C135 (⟨some ⟨z68.heap.size,0,none⟩,6,6⟩ : Slc) z69 (fun r70 z71=>
   vS32 z71 /\ C135 (⟨some ⟨z31.drew.heap.size,0,none⟩,6,6⟩ : Slc) z71 (fun r72 z73=>
    St z73 ⟨z4.heap.size,0,none⟩ (.int .i64 r70) fun z74=>
    St z74 (.add ⟨z4.heap.size,0,none⟩ 1) (.int .i64 r72) fun z75=>
    St z75 ⟨z5.heap.size,0,none⟩ (.int .i64 0) fun z76=>
    CD142 ⟨z5.heap.size,0,none⟩ ⟨z4.heap.size,0,none⟩ none z76 fun z77=>
     Ld z77 ⟨z4.heap.size,0,none⟩ (.int .i64) fun x78=>
     Ld z77 (.add ⟨z4.heap.size,0,none⟩ 1) (.int .i64) fun x79=>
     Ld z77 ⟨z5.heap.size,0,none⟩ (.int .i64) fun x80=>
     R (x78,x79) x80 z77) (S122P z4 z5 R)) (S122P z4 z5 R))
def S122 (m1 : Int × Int × Int × Int × Int × Int) (p2 : Int × Int) (w : World) (R : (Int × Int) -> Int -> World -> Prop) : Prop :=
 Nw w (.cells #[.int .i64 (m1.1),.int .i64 (m1.2.1),.int .i64 (m1.2.2.1),.int .i64 (m1.2.2.2.1),.int .i64 (m1.2.2.2.2.1),.int .i64 (m1.2.2.2.2.2)] 24) fun z3=>
 Nw z3 (.cells #[.int .i64 (p2.1),.int .i64 (p2.2)] 68) fun z4=>
 Nw z4 (.cells #[.int .i64 0,.int .i64 0] 68) fun z5=>
 Nw z5 (.cells #[.int .i64 0] 43) fun z6=>
 Ld z6 ⟨w.heap.size,0,none⟩ (.int .i64) fun x13=>
 Ld z6 (.add ⟨w.heap.size,0,none⟩ 1) (.int .i64) fun x14=>
 Ld z6 (.add ⟨w.heap.size,0,none⟩ 2) (.int .i64) fun x15=>
 Ld z6 (.add ⟨w.heap.size,0,none⟩ 3) (.int .i64) fun x16=>
 Ld z6 (.add ⟨w.heap.size,0,none⟩ 4) (.int .i64) fun x17=>
 Ld z6 (.add ⟨w.heap.size,0,none⟩ 5) (.int .i64) fun x18=>
 C57 (x13,x14,x15,x16,x17,x18) z6 fun r19 z20=>
  C134 r19 z20 (fun z21=>
   Join (S122J1 w z3 z4 z5 R) fun (vJ81 : Unit -> World -> Prop)=>
    Ld z21 ⟨z3.heap.size,0,none⟩ (.int .i64) fun x82=>
    C94 x82 z21 fun r83 z84=>
     Br r83 (C134 2 z84 (fun z85=>
       vJ81 () z85) (S122P z4 z5 R)) (Ld z84 (.add ⟨z3.heap.size,0,none⟩ 1) (.int .i64) fun x86=>
      C94 x86 z84 fun r87 z88=>
       Br r87 (C134 2 z88 (fun z89=>
         vJ81 () z89) (S122P z4 z5 R)) (vJ81 () z88))) (S122P z4 z5 R)
def pl122 : DPlan := (.pre (.reg .seq) (.here [4,5] (.q (.join [] [2,3,4,5] (.q (.cond (.reg .seq) .leaf)) (.seq (.reg (.held [23] (.take 0 (.take 1 (.take 2 (.take 3 (.take 4 (.take 5 (.take 6 (.take 7 (.take 8 (.take 9 (.take 12 (.take 13 (.take 14 (.take 15 (.take 16 (.take 17 (.take 18 (.take 19 (.take 20 (.take 21 (.effs 10 none (.effs 11 none (.eff 22 none (.eff 23 (some [24]) (.eff 24 (some [25]) (.eff 25 (some [26]) (.eff 26 (some []) .done))))) (.eff 22 none (.eff 11 none (.eff 23 (some [24]) (.eff 24 (some [25]) (.eff 25 (some [26]) (.eff 26 (some []) .done))))))) (.eff 22 none (.eff 10 none (.eff 11 none (.eff 23 (some [24]) (.eff 24 (some [25]) (.eff 25 (some [26]) (.eff 26 (some []) .done)))))))))))))))))))))))))))))) .leaf)))))
theorem T122 (m1 : Int × Int × Int × Int × Int × Int) (p2 : Int × Int) (w : World) (R : (Int × Int) -> Int -> World -> Prop) (h : S122 m1 p2 w R) : C122 (m1.1,m1.2.1,m1.2.2.1,m1.2.2.2.1,m1.2.2.2.2.1,m1.2.2.2.2.2) (p2.1,p2.2) w R := by
 have e : fnTD Tryz.prog FF MAY (fun _ _=> False) pl122 Tryz.f122 [.agg #[.int .i64 (m1.1),.int .i64 (m1.2.1),.int .i64 (m1.2.2.1),.int .i64 (m1.2.2.2.1),.int .i64 (m1.2.2.2.2.1),.int .i64 (m1.2.2.2.2.2)],.agg #[.int .i64 (p2.1),.int .i64 (p2.2)]] w [(.agg [(.int .i64),(.int .i64)]),(.one (.int .i64))] (fun s w=> R s.1 s.2 w) = S122 m1 p2 w R := by kernel_rfl
 exact (fnD_calls okF okM Tryz.func122 (by kernel_rfl) (by kernel_rfl) (e.mpr h)).mono fun _ _ ⟨s,he,hR⟩=> ⟨s.1,s.2,he,hR⟩
def S143L1 (n1 : Int) (R : Int -> World -> Prop) (I4 : (Int × Int) -> World -> Prop) (s2 : Int × Int) (z3 : World) : Prop :=
 Br (decide (s2.2 > 0)) ((IntKind.i64.wrap (s2.1 + s2.2)) ≠ 0 /\ Lt (decide ((IntKind.i64.wrap (s2.1 + s2.2)) <= (IntKind.i64.wrap (Int.tdiv n1 (IntKind.i64.wrap (s2.1 + s2.2)))))) fun (x5 : Bool)=>
  Br x5 (I4 (IntKind.i64.wrap (s2.1 + s2.2),Int.fdiv s2.2 (2 ^ 1)) z3) (I4 (s2.1,Int.fdiv s2.2 (2 ^ 1)) z3)) (R s2.1 z3)
def S143 (n1 : Int) (w : World) (R : Int -> World -> Prop) : Prop :=
 Lp (σ := Int × Int) (S143L1 n1 R) (0,2147483648) w
def pl143 : Plan := (.q (.q (.seq (.q (.block (.loop [(3,(.one (.int .i64))),(4,(.one (.int .i64)))] [0] (.seq (.q (.cond .leaf .leaf)) (.seq (.block (.q (.q (.cond (.reg .seq) .leaf)))) (.reg .seq)))))) (.q .leaf))))
theorem T143 (n1 : Int) (w : World) (R : Int -> World -> Prop) (h : S143 n1 w R) : C143 n1 w R := by
 have e : fnT Tryz.prog ⟨FF,MAY,(fun _ _=> False)⟩ pl143 Tryz.f143 [.int .i64 n1] w [(.one (.int .i64))] (fun s w=> R s w) = S143 n1 w R := by kernel_rfl
 exact (fn_calls okF okM Tryz.func143 (by kernel_rfl) (by kernel_rfl) (e.mpr h)).mono fun _ _ ⟨s,he,hR⟩=> ⟨s,he,hR⟩
def S123 (m1 : Int × Int × Int × Int × Int × Int) (p2 : Int × Int) (w : World) (R : Int -> Int -> World -> Prop) : Prop :=
 Nw w (.cells #[.int .i64 (m1.1),.int .i64 (m1.2.1),.int .i64 (m1.2.2.1),.int .i64 (m1.2.2.2.1),.int .i64 (m1.2.2.2.2.1),.int .i64 (m1.2.2.2.2.2)] 24) fun z3=>
 Nw z3 (.cells #[.int .i64 (p2.1),.int .i64 (p2.2)] 68) fun z4=>
 St z4 (.add ⟨w.heap.size,0,none⟩ 4) (.int .i64 0) fun z5=>
 St z5 (.add ⟨w.heap.size,0,none⟩ 5) (.int .i64 0) fun z6=>
 Ld z6 ⟨w.heap.size,0,none⟩ (.int .i64) fun x7=>
 Ld z6 (.add ⟨w.heap.size,0,none⟩ 1) (.int .i64) fun x8=>
 Ld z6 (.add ⟨w.heap.size,0,none⟩ 2) (.int .i64) fun x9=>
 Ld z6 (.add ⟨w.heap.size,0,none⟩ 3) (.int .i64) fun x10=>
 Ld z6 (.add ⟨w.heap.size,0,none⟩ 4) (.int .i64) fun x11=>
 Ld z6 (.add ⟨w.heap.size,0,none⟩ 5) (.int .i64) fun x12=>
 Ld z6 ⟨z3.heap.size,0,none⟩ (.int .i64) fun x13=>
 Ld z6 (.add ⟨z3.heap.size,0,none⟩ 1) (.int .i64) fun x14=>
 C122 (x7,x8,x9,x10,x11,x12) (x13,x14) z6 fun r15 r16 z17=>
  Nw z17 (.cells #[.int .i64 0,.int .i64 0] 68) fun z18=>
  St z18 ⟨z17.heap.size,0,none⟩ (.int .i64 (r15.1)) fun z19=>
  St z19 (.add ⟨z17.heap.size,0,none⟩ 1) (.int .i64 (r15.2)) fun z20=>
  Br (r16 != 0) (R 0 r16 z20) (Ld z20 ⟨z17.heap.size,0,none⟩ (.int .i64) fun x21=>
   Ld z20 ⟨z17.heap.size,0,none⟩ (.int .i64) fun x22=>
   Ld z20 (.add ⟨z17.heap.size,0,none⟩ 1) (.int .i64) fun x23=>
   Ld z20 (.add ⟨z17.heap.size,0,none⟩ 1) (.int .i64) fun x24=>
   C143 (IntKind.i64.wrap ((IntKind.i64.wrap (x21 * x22)) + (IntKind.i64.wrap (x23 * x24)))) z20 fun r25 z26=>
    Br (decide (r25 > 1073741824)) (R 0 2 z26) (R r25 0 z26))
def pl123 : Plan := (.q (.q (.q (.seq (.q (.cond (.q .leaf) .leaf)) (.q (.seq (.q (.cond (.q .leaf) .leaf)) (.q .leaf)))))))
theorem T123 (m1 : Int × Int × Int × Int × Int × Int) (p2 : Int × Int) (w : World) (R : Int -> Int -> World -> Prop) (h : S123 m1 p2 w R) : C123 (m1.1,m1.2.1,m1.2.2.1,m1.2.2.2.1,m1.2.2.2.2.1,m1.2.2.2.2.2) (p2.1,p2.2) w R := by
 have e : fnT Tryz.prog ⟨FF,MAY,(fun _ _=> False)⟩ pl123 Tryz.f123 [.agg #[.int .i64 (m1.1),.int .i64 (m1.2.1),.int .i64 (m1.2.2.1),.int .i64 (m1.2.2.2.1),.int .i64 (m1.2.2.2.2.1),.int .i64 (m1.2.2.2.2.2)],.agg #[.int .i64 (p2.1),.int .i64 (p2.2)]] w [(.one (.int .i64)),(.one (.int .i64))] (fun s w=> R s.1 s.2 w) = S123 m1 p2 w R := by kernel_rfl
 exact (fn_calls okF okM Tryz.func123 (by kernel_rfl) (by kernel_rfl) (e.mpr h)).mono fun _ _ ⟨s,he,hR⟩=> ⟨s.1,s.2,he,hR⟩
def S24 (w : World) (R : (Int × Int × Int × Int × Int × Int) -> World -> Prop) : Prop :=
 Nw w (.cells #[.int .i64 0,.int .i64 0,.int .i64 0,.int .i64 0,.int .i64 0,.int .i64 0] 24) fun z1=>
 St z1 ⟨w.heap.size,0,none⟩ (.int .i64 10000) fun z2=>
 St z2 (.add ⟨w.heap.size,0,none⟩ 1) (.int .i64 0) fun z3=>
 St z3 (.add ⟨w.heap.size,0,none⟩ 2) (.int .i64 0) fun z4=>
 St z4 (.add ⟨w.heap.size,0,none⟩ 3) (.int .i64 10000) fun z5=>
 St z5 (.add ⟨w.heap.size,0,none⟩ 4) (.int .i64 0) fun z6=>
 St z6 (.add ⟨w.heap.size,0,none⟩ 5) (.int .i64 0) fun z7=>
 Ld z7 ⟨w.heap.size,0,none⟩ (.int .i64) fun x8=>
 Ld z7 (.add ⟨w.heap.size,0,none⟩ 1) (.int .i64) fun x9=>
 Ld z7 (.add ⟨w.heap.size,0,none⟩ 2) (.int .i64) fun x10=>
 Ld z7 (.add ⟨w.heap.size,0,none⟩ 3) (.int .i64) fun x11=>
 Ld z7 (.add ⟨w.heap.size,0,none⟩ 4) (.int .i64) fun x12=>
 Ld z7 (.add ⟨w.heap.size,0,none⟩ 5) (.int .i64) fun x13=>
 R (x8,x9,x10,x11,x12,x13) z7
def pl24 : Plan := (.q (.q .leaf))
theorem T24 (w : World) (R : (Int × Int × Int × Int × Int × Int) -> World -> Prop) (h : S24 w R) : C24 w R := by
 have e : fnT Tryz.prog ⟨FF,MAY,(fun _ _=> False)⟩ pl24 Tryz.f24 [] w [(.agg [(.int .i64),(.int .i64),(.int .i64),(.int .i64),(.int .i64),(.int .i64)])] (fun s w=> R s w) = S24 w R := by kernel_rfl
 exact (fn_calls okF okM Tryz.func24 (by kernel_rfl) (by kernel_rfl) (e.mpr h)).mono fun _ _ ⟨s,he,hR⟩=> ⟨s,he,hR⟩
def S116 (x1 : Int) (y2 : Int) (w : World) (R : (Int × Int × Int × Int × Int × Int) -> World -> Prop) : Prop :=
 Nw w (.cells #[.int .i64 0,.int .i64 0,.int .i64 0,.int .i64 0,.int .i64 0,.int .i64 0] 24) fun z3=>
 C24 z3 fun r4 z5=>
  Nw z5 (.cells #[.int .i64 0,.int .i64 0,.int .i64 0,.int .i64 0,.int .i64 0,.int .i64 0] 24) fun z6=>
  St z6 ⟨z5.heap.size,0,none⟩ (.int .i64 (r4.1)) fun z7=>
  St z7 (.add ⟨z5.heap.size,0,none⟩ 1) (.int .i64 (r4.2.1)) fun z8=>
  St z8 (.add ⟨z5.heap.size,0,none⟩ 2) (.int .i64 (r4.2.2.1)) fun z9=>
  St z9 (.add ⟨z5.heap.size,0,none⟩ 3) (.int .i64 (r4.2.2.2.1)) fun z10=>
  St z10 (.add ⟨z5.heap.size,0,none⟩ 4) (.int .i64 (r4.2.2.2.2.1)) fun z11=>
  St z11 (.add ⟨z5.heap.size,0,none⟩ 5) (.int .i64 (r4.2.2.2.2.2)) fun z12=>
  St z12 (.add ⟨z5.heap.size,0,none⟩ 4) (.int .i64 x1) fun z13=>
  St z13 (.add ⟨z5.heap.size,0,none⟩ 5) (.int .i64 y2) fun z14=>
  Ld z14 ⟨z5.heap.size,0,none⟩ (.int .i64) fun x15=>
  Ld z14 (.add ⟨z5.heap.size,0,none⟩ 1) (.int .i64) fun x16=>
  Ld z14 (.add ⟨z5.heap.size,0,none⟩ 2) (.int .i64) fun x17=>
  Ld z14 (.add ⟨z5.heap.size,0,none⟩ 3) (.int .i64) fun x18=>
  Ld z14 (.add ⟨z5.heap.size,0,none⟩ 4) (.int .i64) fun x19=>
  Ld z14 (.add ⟨z5.heap.size,0,none⟩ 5) (.int .i64) fun x20=>
  St z14 ⟨w.heap.size,0,none⟩ (.int .i64 x15) fun z21=>
  St z21 (.add ⟨w.heap.size,0,none⟩ 1) (.int .i64 x16) fun z22=>
  St z22 (.add ⟨w.heap.size,0,none⟩ 2) (.int .i64 x17) fun z23=>
  St z23 (.add ⟨w.heap.size,0,none⟩ 3) (.int .i64 x18) fun z24=>
  St z24 (.add ⟨w.heap.size,0,none⟩ 4) (.int .i64 x19) fun z25=>
  St z25 (.add ⟨w.heap.size,0,none⟩ 5) (.int .i64 x20) fun z26=>
  Ld z26 ⟨w.heap.size,0,none⟩ (.int .i64) fun x27=>
  Ld z26 (.add ⟨w.heap.size,0,none⟩ 1) (.int .i64) fun x28=>
  Ld z26 (.add ⟨w.heap.size,0,none⟩ 2) (.int .i64) fun x29=>
  Ld z26 (.add ⟨w.heap.size,0,none⟩ 3) (.int .i64) fun x30=>
  Ld z26 (.add ⟨w.heap.size,0,none⟩ 4) (.int .i64) fun x31=>
  Ld z26 (.add ⟨w.heap.size,0,none⟩ 5) (.int .i64) fun x32=>
  R (x27,x28,x29,x30,x31,x32) z26
def pl116 : Plan := (.q (.q (.q (.q .leaf))))
theorem T116 (x1 : Int) (y2 : Int) (w : World) (R : (Int × Int × Int × Int × Int × Int) -> World -> Prop) (h : S116 x1 y2 w R) : C116 x1 y2 w R := by
 have e : fnT Tryz.prog ⟨FF,MAY,(fun _ _=> False)⟩ pl116 Tryz.f116 [.int .i64 x1,.int .i64 y2] w [(.agg [(.int .i64),(.int .i64),(.int .i64),(.int .i64),(.int .i64),(.int .i64)])] (fun s w=> R s w) = S116 x1 y2 w R := by kernel_rfl
 exact (fn_calls okF okM Tryz.func116 (by kernel_rfl) (by kernel_rfl) (e.mpr h)).mono fun _ _ ⟨s,he,hR⟩=> ⟨s,he,hR⟩
def S86L1 (l1 : Slc) (R : Bool -> World -> Prop) (I4 : Int -> World -> Prop) (s2 : Int) (z3 : World) : Prop :=
 Br (decide (s2 < ((l1.len : Nat) : Int))) (0 <= s2 /\ s2 < (l1.len : Nat) /\ Nn l1.p fun a5=>
  Ld z3 (a5.add ((s2).toNat * 1)) (.int .i64) fun x6=>
  Br (decide (x6 < (-1073741824))) (R false z3) (Br (decide (x6 > 1073741824)) (R false z3) (I4 (IntKind.i64.wrap (s2 + 1)) z3))) (R true z3)
def S86 (l1 : Slc) (w : World) (R : Bool -> World -> Prop) : Prop :=
 Lp (σ := Int) (S86L1 l1 R) 0 w
def pl86 : Plan := (.q (.seq (.q (.block (.loop [(7,(.one (.int .i64)))] [5,6] (.q (.seq (.cond .leaf .leaf) (.seq (.block (.q (.q (.cond (.q .leaf) .leaf)))) (.reg .seq))))))) (.q .leaf)))
theorem T86 (l1 : Slc) (w : World) (R : Bool -> World -> Prop) (h : S86 l1 w R) : C86 l1 w R := by
 have e : fnT Tryz.prog ⟨FF,MAY,(fun _ _=> False)⟩ pl86 Tryz.f86 [Slc.v l1] w [(.one .bool)] (fun s w=> R s w) = S86 l1 w R := by kernel_rfl
 exact (fn_calls okF okM Tryz.func86 (by kernel_rfl) (by kernel_rfl) (e.mpr h)).mono fun _ _ ⟨s,he,hR⟩=> ⟨s,he,hR⟩
def S49 (m1 : Int × Int × Int × Int × Int × Int) (w : World) (R : Int -> World -> Prop) : Prop :=
 Nw w (.cells #[.int .i64 (m1.1),.int .i64 (m1.2.1),.int .i64 (m1.2.2.1),.int .i64 (m1.2.2.2.1),.int .i64 (m1.2.2.2.2.1),.int .i64 (m1.2.2.2.2.2)] 24) fun z2=>
 Ld z2 ⟨w.heap.size,0,none⟩ (.int .i64) fun x3=>
 Ld z2 (.add ⟨w.heap.size,0,none⟩ 1) (.int .i64) fun x4=>
 Ld z2 (.add ⟨w.heap.size,0,none⟩ 2) (.int .i64) fun x5=>
 Ld z2 (.add ⟨w.heap.size,0,none⟩ 3) (.int .i64) fun x6=>
 Ld z2 (.add ⟨w.heap.size,0,none⟩ 4) (.int .i64) fun x7=>
 Ld z2 (.add ⟨w.heap.size,0,none⟩ 5) (.int .i64) fun x8=>
 Nw z2 (.cells #[.int .i64 x3,.int .i64 x4,.int .i64 x5,.int .i64 x6,.int .i64 x7,.int .i64 x8] 2) fun z9=>
 C86 (⟨some ⟨z2.heap.size,0,none⟩,6,6⟩ : Slc) z9 fun r10 z11=>
  Br (!r10) (R 2 z11) (R 0 z11)
def pl49 : Plan := (.q (.seq (.q (.cond (.q .leaf) .leaf)) (.q .leaf)))
theorem T49 (m1 : Int × Int × Int × Int × Int × Int) (w : World) (R : Int -> World -> Prop) (h : S49 m1 w R) : C49 (m1.1,m1.2.1,m1.2.2.1,m1.2.2.2.1,m1.2.2.2.2.1,m1.2.2.2.2.2) w R := by
 have e : fnT Tryz.prog ⟨FF,MAY,(fun _ _=> False)⟩ pl49 Tryz.f49 [.agg #[.int .i64 (m1.1),.int .i64 (m1.2.1),.int .i64 (m1.2.2.1),.int .i64 (m1.2.2.2.1),.int .i64 (m1.2.2.2.2.1),.int .i64 (m1.2.2.2.2.2)]] w [(.one (.int .i64))] (fun s w=> R s w) = S49 m1 w R := by kernel_rfl
 exact (fn_calls okF okM Tryz.func49 (by kernel_rfl) (by kernel_rfl) (e.mpr h)).mono fun _ _ ⟨s,he,hR⟩=> ⟨s,he,hR⟩
def S85 (a1 : Int × Int × Int × Int × Int × Int) (b2 : Int × Int × Int × Int × Int × Int) (w : World) (R : (Int × Int × Int × Int × Int × Int) -> Int -> World -> Prop) : Prop :=
 Nw w (.cells #[.int .i64 (a1.1),.int .i64 (a1.2.1),.int .i64 (a1.2.2.1),.int .i64 (a1.2.2.2.1),.int .i64 (a1.2.2.2.2.1),.int .i64 (a1.2.2.2.2.2)] 24) fun z3=>
 Nw z3 (.cells #[.int .i64 (b2.1),.int .i64 (b2.2.1),.int .i64 (b2.2.2.1),.int .i64 (b2.2.2.2.1),.int .i64 (b2.2.2.2.2.1),.int .i64 (b2.2.2.2.2.2)] 24) fun z4=>
 Nw z4 (.cells #[.int .i64 0,.int .i64 0,.int .i64 0,.int .i64 0,.int .i64 0,.int .i64 0] 24) fun z5=>
 Ld z5 ⟨w.heap.size,0,none⟩ (.int .i64) fun x34=>
 Ld z5 (.add ⟨w.heap.size,0,none⟩ 1) (.int .i64) fun x35=>
 Ld z5 (.add ⟨w.heap.size,0,none⟩ 2) (.int .i64) fun x36=>
 Ld z5 (.add ⟨w.heap.size,0,none⟩ 3) (.int .i64) fun x37=>
 Ld z5 (.add ⟨w.heap.size,0,none⟩ 4) (.int .i64) fun x38=>
 Ld z5 (.add ⟨w.heap.size,0,none⟩ 5) (.int .i64) fun x39=>
 C49 (x34,x35,x36,x37,x38,x39) z5 fun r40 z41=>
  Br (r40 != 0) (St z41 ⟨z4.heap.size,0,none⟩ (.int .i64 0) fun z42=>
   St z42 (.add ⟨z4.heap.size,0,none⟩ 1) (.int .i64 0) fun z43=>
   St z43 (.add ⟨z4.heap.size,0,none⟩ 2) (.int .i64 0) fun z44=>
   St z44 (.add ⟨z4.heap.size,0,none⟩ 3) (.int .i64 0) fun z45=>
   St z45 (.add ⟨z4.heap.size,0,none⟩ 4) (.int .i64 0) fun z46=>
   St z46 (.add ⟨z4.heap.size,0,none⟩ 5) (.int .i64 0) fun z47=>
   Ld z47 ⟨z4.heap.size,0,none⟩ (.int .i64) fun x48=>
   Ld z47 (.add ⟨z4.heap.size,0,none⟩ 1) (.int .i64) fun x49=>
   Ld z47 (.add ⟨z4.heap.size,0,none⟩ 2) (.int .i64) fun x50=>
   Ld z47 (.add ⟨z4.heap.size,0,none⟩ 3) (.int .i64) fun x51=>
   Ld z47 (.add ⟨z4.heap.size,0,none⟩ 4) (.int .i64) fun x52=>
   Ld z47 (.add ⟨z4.heap.size,0,none⟩ 5) (.int .i64) fun x53=>
   R (x48,x49,x50,x51,x52,x53) 2 z47) (Ld z41 ⟨z3.heap.size,0,none⟩ (.int .i64) fun x54=>
   Ld z41 (.add ⟨z3.heap.size,0,none⟩ 1) (.int .i64) fun x55=>
   Ld z41 (.add ⟨z3.heap.size,0,none⟩ 2) (.int .i64) fun x56=>
   Ld z41 (.add ⟨z3.heap.size,0,none⟩ 3) (.int .i64) fun x57=>
   Ld z41 (.add ⟨z3.heap.size,0,none⟩ 4) (.int .i64) fun x58=>
   Ld z41 (.add ⟨z3.heap.size,0,none⟩ 5) (.int .i64) fun x59=>
   C49 (x54,x55,x56,x57,x58,x59) z41 fun r60 z61=>
    Br (r60 != 0) (St z61 ⟨z4.heap.size,0,none⟩ (.int .i64 0) fun z62=>
     St z62 (.add ⟨z4.heap.size,0,none⟩ 1) (.int .i64 0) fun z63=>
     St z63 (.add ⟨z4.heap.size,0,none⟩ 2) (.int .i64 0) fun z64=>
     St z64 (.add ⟨z4.heap.size,0,none⟩ 3) (.int .i64 0) fun z65=>
     St z65 (.add ⟨z4.heap.size,0,none⟩ 4) (.int .i64 0) fun z66=>
     St z66 (.add ⟨z4.heap.size,0,none⟩ 5) (.int .i64 0) fun z67=>
     Ld z67 ⟨z4.heap.size,0,none⟩ (.int .i64) fun x68=>
     Ld z67 (.add ⟨z4.heap.size,0,none⟩ 1) (.int .i64) fun x69=>
     Ld z67 (.add ⟨z4.heap.size,0,none⟩ 2) (.int .i64) fun x70=>
     Ld z67 (.add ⟨z4.heap.size,0,none⟩ 3) (.int .i64) fun x71=>
     Ld z67 (.add ⟨z4.heap.size,0,none⟩ 4) (.int .i64) fun x72=>
     Ld z67 (.add ⟨z4.heap.size,0,none⟩ 5) (.int .i64) fun x73=>
     R (x68,x69,x70,x71,x72,x73) 2 z67) (Ld z61 ⟨w.heap.size,0,none⟩ (.int .i64) fun x74=>
     Ld z61 ⟨z3.heap.size,0,none⟩ (.int .i64) fun x75=>
     Ld z61 (.add ⟨w.heap.size,0,none⟩ 1) (.int .i64) fun x76=>
     Ld z61 (.add ⟨z3.heap.size,0,none⟩ 2) (.int .i64) fun x77=>
     Nw z61 (.cells #[.int .i64 x74,.int .i64 x75,.int .i64 x76,.int .i64 x77] 2) fun z78=>
     C117 (⟨some ⟨z61.heap.size,0,none⟩,4,4⟩ : Slc) z78 fun r79 r80 z81=>
      Ld z81 ⟨w.heap.size,0,none⟩ (.int .i64) fun x82=>
      Ld z81 (.add ⟨z3.heap.size,0,none⟩ 1) (.int .i64) fun x83=>
      Ld z81 (.add ⟨w.heap.size,0,none⟩ 1) (.int .i64) fun x84=>
      Ld z81 (.add ⟨z3.heap.size,0,none⟩ 3) (.int .i64) fun x85=>
      Nw z81 (.cells #[.int .i64 x82,.int .i64 x83,.int .i64 x84,.int .i64 x85] 2) fun z86=>
      C117 (⟨some ⟨z81.heap.size,0,none⟩,4,4⟩ : Slc) z86 fun r87 r88 z89=>
       Ld z89 (.add ⟨w.heap.size,0,none⟩ 2) (.int .i64) fun x90=>
       Ld z89 ⟨z3.heap.size,0,none⟩ (.int .i64) fun x91=>
       Ld z89 (.add ⟨w.heap.size,0,none⟩ 3) (.int .i64) fun x92=>
       Ld z89 (.add ⟨z3.heap.size,0,none⟩ 2) (.int .i64) fun x93=>
       Nw z89 (.cells #[.int .i64 x90,.int .i64 x91,.int .i64 x92,.int .i64 x93] 2) fun z94=>
       C117 (⟨some ⟨z89.heap.size,0,none⟩,4,4⟩ : Slc) z94 fun r95 r96 z97=>
        Ld z97 (.add ⟨w.heap.size,0,none⟩ 2) (.int .i64) fun x98=>
        Ld z97 (.add ⟨z3.heap.size,0,none⟩ 1) (.int .i64) fun x99=>
        Ld z97 (.add ⟨w.heap.size,0,none⟩ 3) (.int .i64) fun x100=>
        Ld z97 (.add ⟨z3.heap.size,0,none⟩ 3) (.int .i64) fun x101=>
        Nw z97 (.cells #[.int .i64 x98,.int .i64 x99,.int .i64 x100,.int .i64 x101] 2) fun z102=>
        C117 (⟨some ⟨z97.heap.size,0,none⟩,4,4⟩ : Slc) z102 fun r103 r104 z105=>
         Ld z105 (.add ⟨w.heap.size,0,none⟩ 4) (.int .i64) fun x106=>
         Ld z105 ⟨z3.heap.size,0,none⟩ (.int .i64) fun x107=>
         Ld z105 (.add ⟨w.heap.size,0,none⟩ 5) (.int .i64) fun x108=>
         Ld z105 (.add ⟨z3.heap.size,0,none⟩ 2) (.int .i64) fun x109=>
         Ld z105 (.add ⟨z3.heap.size,0,none⟩ 4) (.int .i64) fun x110=>
         Nw z105 (.cells #[.int .i64 x106,.int .i64 x107,.int .i64 x108,.int .i64 x109,.int .i64 x110,.int .i64 10000] 2) fun z111=>
         C117 (⟨some ⟨z105.heap.size,0,none⟩,6,6⟩ : Slc) z111 fun r112 r113 z114=>
          Ld z114 (.add ⟨w.heap.size,0,none⟩ 4) (.int .i64) fun x115=>
          Ld z114 (.add ⟨z3.heap.size,0,none⟩ 1) (.int .i64) fun x116=>
          Ld z114 (.add ⟨w.heap.size,0,none⟩ 5) (.int .i64) fun x117=>
          Ld z114 (.add ⟨z3.heap.size,0,none⟩ 3) (.int .i64) fun x118=>
          Ld z114 (.add ⟨z3.heap.size,0,none⟩ 5) (.int .i64) fun x119=>
          Nw z114 (.cells #[.int .i64 x115,.int .i64 x116,.int .i64 x117,.int .i64 x118,.int .i64 x119,.int .i64 10000] 2) fun z120=>
          C117 (⟨some ⟨z114.heap.size,0,none⟩,6,6⟩ : Slc) z120 fun r121 r122 z123=>
           Br (r80 != 0) (St z123 ⟨z4.heap.size,0,none⟩ (.int .i64 0) fun z169=>
            St z169 (.add ⟨z4.heap.size,0,none⟩ 1) (.int .i64 0) fun z170=>
            St z170 (.add ⟨z4.heap.size,0,none⟩ 2) (.int .i64 0) fun z171=>
            St z171 (.add ⟨z4.heap.size,0,none⟩ 3) (.int .i64 0) fun z172=>
            St z172 (.add ⟨z4.heap.size,0,none⟩ 4) (.int .i64 0) fun z173=>
            St z173 (.add ⟨z4.heap.size,0,none⟩ 5) (.int .i64 0) fun z174=>
            Ld z174 ⟨z4.heap.size,0,none⟩ (.int .i64) fun x175=>
            Ld z174 (.add ⟨z4.heap.size,0,none⟩ 1) (.int .i64) fun x176=>
            Ld z174 (.add ⟨z4.heap.size,0,none⟩ 2) (.int .i64) fun x177=>
            Ld z174 (.add ⟨z4.heap.size,0,none⟩ 3) (.int .i64) fun x178=>
            Ld z174 (.add ⟨z4.heap.size,0,none⟩ 4) (.int .i64) fun x179=>
            Ld z174 (.add ⟨z4.heap.size,0,none⟩ 5) (.int .i64) fun x180=>
            R (x175,x176,x177,x178,x179,x180) 2 z174) (Br (r88 != 0) (St z123 ⟨z4.heap.size,0,none⟩ (.int .i64 0) fun z181=>
             St z181 (.add ⟨z4.heap.size,0,none⟩ 1) (.int .i64 0) fun z182=>
             St z182 (.add ⟨z4.heap.size,0,none⟩ 2) (.int .i64 0) fun z183=>
             St z183 (.add ⟨z4.heap.size,0,none⟩ 3) (.int .i64 0) fun z184=>
             St z184 (.add ⟨z4.heap.size,0,none⟩ 4) (.int .i64 0) fun z185=>
             St z185 (.add ⟨z4.heap.size,0,none⟩ 5) (.int .i64 0) fun z186=>
             Ld z186 ⟨z4.heap.size,0,none⟩ (.int .i64) fun x187=>
             Ld z186 (.add ⟨z4.heap.size,0,none⟩ 1) (.int .i64) fun x188=>
             Ld z186 (.add ⟨z4.heap.size,0,none⟩ 2) (.int .i64) fun x189=>
             Ld z186 (.add ⟨z4.heap.size,0,none⟩ 3) (.int .i64) fun x190=>
             Ld z186 (.add ⟨z4.heap.size,0,none⟩ 4) (.int .i64) fun x191=>
             Ld z186 (.add ⟨z4.heap.size,0,none⟩ 5) (.int .i64) fun x192=>
             R (x187,x188,x189,x190,x191,x192) 2 z186) (Br (r96 != 0) (St z123 ⟨z4.heap.size,0,none⟩ (.int .i64 0) fun z193=>
              St z193 (.add ⟨z4.heap.size,0,none⟩ 1) (.int .i64 0) fun z194=>
              St z194 (.add ⟨z4.heap.size,0,none⟩ 2) (.int .i64 0) fun z195=>
              St z195 (.add ⟨z4.heap.size,0,none⟩ 3) (.int .i64 0) fun z196=>
              St z196 (.add ⟨z4.heap.size,0,none⟩ 4) (.int .i64 0) fun z197=>
              St z197 (.add ⟨z4.heap.size,0,none⟩ 5) (.int .i64 0) fun z198=>
              Ld z198 ⟨z4.heap.size,0,none⟩ (.int .i64) fun x199=>
              Ld z198 (.add ⟨z4.heap.size,0,none⟩ 1) (.int .i64) fun x200=>
              Ld z198 (.add ⟨z4.heap.size,0,none⟩ 2) (.int .i64) fun x201=>
              Ld z198 (.add ⟨z4.heap.size,0,none⟩ 3) (.int .i64) fun x202=>
              Ld z198 (.add ⟨z4.heap.size,0,none⟩ 4) (.int .i64) fun x203=>
              Ld z198 (.add ⟨z4.heap.size,0,none⟩ 5) (.int .i64) fun x204=>
              R (x199,x200,x201,x202,x203,x204) 2 z198) (Br (r104 != 0) (St z123 ⟨z4.heap.size,0,none⟩ (.int .i64 0) fun z205=>
               St z205 (.add ⟨z4.heap.size,0,none⟩ 1) (.int .i64 0) fun z206=>
               St z206 (.add ⟨z4.heap.size,0,none⟩ 2) (.int .i64 0) fun z207=>
               St z207 (.add ⟨z4.heap.size,0,none⟩ 3) (.int .i64 0) fun z208=>
               St z208 (.add ⟨z4.heap.size,0,none⟩ 4) (.int .i64 0) fun z209=>
               St z209 (.add ⟨z4.heap.size,0,none⟩ 5) (.int .i64 0) fun z210=>
               Ld z210 ⟨z4.heap.size,0,none⟩ (.int .i64) fun x211=>
               Ld z210 (.add ⟨z4.heap.size,0,none⟩ 1) (.int .i64) fun x212=>
               Ld z210 (.add ⟨z4.heap.size,0,none⟩ 2) (.int .i64) fun x213=>
               Ld z210 (.add ⟨z4.heap.size,0,none⟩ 3) (.int .i64) fun x214=>
               Ld z210 (.add ⟨z4.heap.size,0,none⟩ 4) (.int .i64) fun x215=>
               Ld z210 (.add ⟨z4.heap.size,0,none⟩ 5) (.int .i64) fun x216=>
               R (x211,x212,x213,x214,x215,x216) 2 z210) (Br (r113 != 0) (St z123 ⟨z4.heap.size,0,none⟩ (.int .i64 0) fun z217=>
                St z217 (.add ⟨z4.heap.size,0,none⟩ 1) (.int .i64 0) fun z218=>
                St z218 (.add ⟨z4.heap.size,0,none⟩ 2) (.int .i64 0) fun z219=>
                St z219 (.add ⟨z4.heap.size,0,none⟩ 3) (.int .i64 0) fun z220=>
                St z220 (.add ⟨z4.heap.size,0,none⟩ 4) (.int .i64 0) fun z221=>
                St z221 (.add ⟨z4.heap.size,0,none⟩ 5) (.int .i64 0) fun z222=>
                Ld z222 ⟨z4.heap.size,0,none⟩ (.int .i64) fun x223=>
                Ld z222 (.add ⟨z4.heap.size,0,none⟩ 1) (.int .i64) fun x224=>
                Ld z222 (.add ⟨z4.heap.size,0,none⟩ 2) (.int .i64) fun x225=>
                Ld z222 (.add ⟨z4.heap.size,0,none⟩ 3) (.int .i64) fun x226=>
                Ld z222 (.add ⟨z4.heap.size,0,none⟩ 4) (.int .i64) fun x227=>
                Ld z222 (.add ⟨z4.heap.size,0,none⟩ 5) (.int .i64) fun x228=>
                R (x223,x224,x225,x226,x227,x228) 2 z222) (Br (r122 != 0) (St z123 ⟨z4.heap.size,0,none⟩ (.int .i64 0) fun z229=>
                 St z229 (.add ⟨z4.heap.size,0,none⟩ 1) (.int .i64 0) fun z230=>
                 St z230 (.add ⟨z4.heap.size,0,none⟩ 2) (.int .i64 0) fun z231=>
                 St z231 (.add ⟨z4.heap.size,0,none⟩ 3) (.int .i64 0) fun z232=>
                 St z232 (.add ⟨z4.heap.size,0,none⟩ 4) (.int .i64 0) fun z233=>
                 St z233 (.add ⟨z4.heap.size,0,none⟩ 5) (.int .i64 0) fun z234=>
                 Ld z234 ⟨z4.heap.size,0,none⟩ (.int .i64) fun x235=>
                 Ld z234 (.add ⟨z4.heap.size,0,none⟩ 1) (.int .i64) fun x236=>
                 Ld z234 (.add ⟨z4.heap.size,0,none⟩ 2) (.int .i64) fun x237=>
                 Ld z234 (.add ⟨z4.heap.size,0,none⟩ 3) (.int .i64) fun x238=>
                 Ld z234 (.add ⟨z4.heap.size,0,none⟩ 4) (.int .i64) fun x239=>
                 Ld z234 (.add ⟨z4.heap.size,0,none⟩ 5) (.int .i64) fun x240=>
                 R (x235,x236,x237,x238,x239,x240) 2 z234) (Nw z123 (.cells #[.int .i64 r79,.int .i64 r87,.int .i64 r95,.int .i64 r103,.int .i64 r112,.int .i64 r121] 2) fun z241=>
                 C86 (⟨some ⟨z123.heap.size,0,none⟩,6,6⟩ : Slc) z241 fun r242 z243=>
                  Br (!r242) (St z243 ⟨z4.heap.size,0,none⟩ (.int .i64 0) fun z244=>
                   St z244 (.add ⟨z4.heap.size,0,none⟩ 1) (.int .i64 0) fun z245=>
                   St z245 (.add ⟨z4.heap.size,0,none⟩ 2) (.int .i64 0) fun z246=>
                   St z246 (.add ⟨z4.heap.size,0,none⟩ 3) (.int .i64 0) fun z247=>
                   St z247 (.add ⟨z4.heap.size,0,none⟩ 4) (.int .i64 0) fun z248=>
                   St z248 (.add ⟨z4.heap.size,0,none⟩ 5) (.int .i64 0) fun z249=>
                   Ld z249 ⟨z4.heap.size,0,none⟩ (.int .i64) fun x250=>
                   Ld z249 (.add ⟨z4.heap.size,0,none⟩ 1) (.int .i64) fun x251=>
                   Ld z249 (.add ⟨z4.heap.size,0,none⟩ 2) (.int .i64) fun x252=>
                   Ld z249 (.add ⟨z4.heap.size,0,none⟩ 3) (.int .i64) fun x253=>
                   Ld z249 (.add ⟨z4.heap.size,0,none⟩ 4) (.int .i64) fun x254=>
                   Ld z249 (.add ⟨z4.heap.size,0,none⟩ 5) (.int .i64) fun x255=>
                   R (x250,x251,x252,x253,x254,x255) 2 z249) (St z243 ⟨z4.heap.size,0,none⟩ (.int .i64 r79) fun z256=>
                   St z256 (.add ⟨z4.heap.size,0,none⟩ 1) (.int .i64 r87) fun z257=>
                   St z257 (.add ⟨z4.heap.size,0,none⟩ 2) (.int .i64 r95) fun z258=>
                   St z258 (.add ⟨z4.heap.size,0,none⟩ 3) (.int .i64 r103) fun z259=>
                   St z259 (.add ⟨z4.heap.size,0,none⟩ 4) (.int .i64 r112) fun z260=>
                   St z260 (.add ⟨z4.heap.size,0,none⟩ 5) (.int .i64 r121) fun z261=>
                   Ld z261 ⟨z4.heap.size,0,none⟩ (.int .i64) fun x262=>
                   Ld z261 (.add ⟨z4.heap.size,0,none⟩ 1) (.int .i64) fun x263=>
                   Ld z261 (.add ⟨z4.heap.size,0,none⟩ 2) (.int .i64) fun x264=>
                   Ld z261 (.add ⟨z4.heap.size,0,none⟩ 3) (.int .i64) fun x265=>
                   Ld z261 (.add ⟨z4.heap.size,0,none⟩ 4) (.int .i64) fun x266=>
                   Ld z261 (.add ⟨z4.heap.size,0,none⟩ 5) (.int .i64) fun x267=>
                   R (x262,x263,x264,x265,x266,x267) 0 z261)))))))))
def pl85 : Plan := (.q (.seq (.q (.cond (.q .leaf) .leaf)) (.q (.q (.q (.q (.q (.q (.seq (.q (.cond (.q .leaf) .leaf)) (.q .leaf))))))))))
theorem T85 (a1 : Int × Int × Int × Int × Int × Int) (b2 : Int × Int × Int × Int × Int × Int) (w : World) (R : (Int × Int × Int × Int × Int × Int) -> Int -> World -> Prop) (h : S85 a1 b2 w R) : C85 (a1.1,a1.2.1,a1.2.2.1,a1.2.2.2.1,a1.2.2.2.2.1,a1.2.2.2.2.2) (b2.1,b2.2.1,b2.2.2.1,b2.2.2.2.1,b2.2.2.2.2.1,b2.2.2.2.2.2) w R := by
 have e : fnT Tryz.prog ⟨FF,MAY,(fun _ _=> False)⟩ pl85 Tryz.f85 [.agg #[.int .i64 (a1.1),.int .i64 (a1.2.1),.int .i64 (a1.2.2.1),.int .i64 (a1.2.2.2.1),.int .i64 (a1.2.2.2.2.1),.int .i64 (a1.2.2.2.2.2)],.agg #[.int .i64 (b2.1),.int .i64 (b2.2.1),.int .i64 (b2.2.2.1),.int .i64 (b2.2.2.2.1),.int .i64 (b2.2.2.2.2.1),.int .i64 (b2.2.2.2.2.2)]] w [(.agg [(.int .i64),(.int .i64),(.int .i64),(.int .i64),(.int .i64),(.int .i64)]),(.one (.int .i64))] (fun s w=> R s.1 s.2 w) = S85 a1 b2 w R := by kernel_rfl
 exact (fn_calls okF okM Tryz.func85 (by kernel_rfl) (by kernel_rfl) (e.mpr h)).mono fun _ _ ⟨s,he,hR⟩=> ⟨s.1,s.2,he,hR⟩
def S136 (m1 : Int × Int × Int × Int × Int × Int) (p2 : Int × Int) (w : World) (R : (Int × Int) -> Int -> World -> Prop) : Prop :=
 Nw w (.cells #[.int .i64 (m1.1),.int .i64 (m1.2.1),.int .i64 (m1.2.2.1),.int .i64 (m1.2.2.2.1),.int .i64 (m1.2.2.2.2.1),.int .i64 (m1.2.2.2.2.2)] 24) fun z3=>
 Nw z3 (.cells #[.int .i64 (p2.1),.int .i64 (p2.2)] 68) fun z4=>
 Nw z4 (.cells #[.int .i64 0,.int .i64 0] 68) fun z5=>
 Ld z5 ⟨w.heap.size,0,none⟩ (.int .i64) fun x23=>
 Ld z5 (.add ⟨w.heap.size,0,none⟩ 1) (.int .i64) fun x24=>
 Ld z5 (.add ⟨w.heap.size,0,none⟩ 2) (.int .i64) fun x25=>
 Ld z5 (.add ⟨w.heap.size,0,none⟩ 3) (.int .i64) fun x26=>
 Ld z5 (.add ⟨w.heap.size,0,none⟩ 4) (.int .i64) fun x27=>
 Ld z5 (.add ⟨w.heap.size,0,none⟩ 5) (.int .i64) fun x28=>
 C49 (x23,x24,x25,x26,x27,x28) z5 fun r29 z30=>
  Br (r29 != 0) (St z30 ⟨z4.heap.size,0,none⟩ (.int .i64 0) fun z31=>
   St z31 (.add ⟨z4.heap.size,0,none⟩ 1) (.int .i64 0) fun z32=>
   Ld z32 ⟨z4.heap.size,0,none⟩ (.int .i64) fun x33=>
   Ld z32 (.add ⟨z4.heap.size,0,none⟩ 1) (.int .i64) fun x34=>
   R (x33,x34) 2 z32) (Ld z30 ⟨z3.heap.size,0,none⟩ (.int .i64) fun x35=>
   Ld z30 (.add ⟨z3.heap.size,0,none⟩ 1) (.int .i64) fun x36=>
   Nw z30 (.cells #[.int .i64 x35,.int .i64 x36] 2) fun z37=>
   C86 (⟨some ⟨z30.heap.size,0,none⟩,2,2⟩ : Slc) z37 fun r38 z39=>
    Br (!r38) (St z39 ⟨z4.heap.size,0,none⟩ (.int .i64 0) fun z40=>
     St z40 (.add ⟨z4.heap.size,0,none⟩ 1) (.int .i64 0) fun z41=>
     Ld z41 ⟨z4.heap.size,0,none⟩ (.int .i64) fun x42=>
     Ld z41 (.add ⟨z4.heap.size,0,none⟩ 1) (.int .i64) fun x43=>
     R (x42,x43) 2 z41) (Ld z39 ⟨z3.heap.size,0,none⟩ (.int .i64) fun x44=>
     Ld z39 ⟨w.heap.size,0,none⟩ (.int .i64) fun x45=>
     Ld z39 (.add ⟨z3.heap.size,0,none⟩ 1) (.int .i64) fun x46=>
     Ld z39 (.add ⟨w.heap.size,0,none⟩ 2) (.int .i64) fun x47=>
     Ld z39 (.add ⟨w.heap.size,0,none⟩ 4) (.int .i64) fun x48=>
     Nw z39 (.cells #[.int .i64 x44,.int .i64 x45,.int .i64 x46,.int .i64 x47,.int .i64 x48,.int .i64 10000] 2) fun z49=>
     C117 (⟨some ⟨z39.heap.size,0,none⟩,6,6⟩ : Slc) z49 fun r50 r51 z52=>
      Ld z52 ⟨z3.heap.size,0,none⟩ (.int .i64) fun x53=>
      Ld z52 (.add ⟨w.heap.size,0,none⟩ 1) (.int .i64) fun x54=>
      Ld z52 (.add ⟨z3.heap.size,0,none⟩ 1) (.int .i64) fun x55=>
      Ld z52 (.add ⟨w.heap.size,0,none⟩ 3) (.int .i64) fun x56=>
      Ld z52 (.add ⟨w.heap.size,0,none⟩ 5) (.int .i64) fun x57=>
      Nw z52 (.cells #[.int .i64 x53,.int .i64 x54,.int .i64 x55,.int .i64 x56,.int .i64 x57,.int .i64 10000] 2) fun z58=>
      C117 (⟨some ⟨z52.heap.size,0,none⟩,6,6⟩ : Slc) z58 fun r59 r60 z61=>
       Br (r51 != 0) (St z61 ⟨z4.heap.size,0,none⟩ (.int .i64 0) fun z71=>
        St z71 (.add ⟨z4.heap.size,0,none⟩ 1) (.int .i64 0) fun z72=>
        Ld z72 ⟨z4.heap.size,0,none⟩ (.int .i64) fun x73=>
        Ld z72 (.add ⟨z4.heap.size,0,none⟩ 1) (.int .i64) fun x74=>
        R (x73,x74) 2 z72) (Br (r60 != 0) (St z61 ⟨z4.heap.size,0,none⟩ (.int .i64 0) fun z75=>
         St z75 (.add ⟨z4.heap.size,0,none⟩ 1) (.int .i64 0) fun z76=>
         Ld z76 ⟨z4.heap.size,0,none⟩ (.int .i64) fun x77=>
         Ld z76 (.add ⟨z4.heap.size,0,none⟩ 1) (.int .i64) fun x78=>
         R (x77,x78) 2 z76) (Nw z61 (.cells #[.int .i64 r50,.int .i64 r59] 2) fun z79=>
         C86 (⟨some ⟨z61.heap.size,0,none⟩,2,2⟩ : Slc) z79 fun r80 z81=>
          Br (!r80) (St z81 ⟨z4.heap.size,0,none⟩ (.int .i64 0) fun z82=>
           St z82 (.add ⟨z4.heap.size,0,none⟩ 1) (.int .i64 0) fun z83=>
           Ld z83 ⟨z4.heap.size,0,none⟩ (.int .i64) fun x84=>
           Ld z83 (.add ⟨z4.heap.size,0,none⟩ 1) (.int .i64) fun x85=>
           R (x84,x85) 2 z83) (St z81 ⟨z4.heap.size,0,none⟩ (.int .i64 r50) fun z86=>
           St z86 (.add ⟨z4.heap.size,0,none⟩ 1) (.int .i64 r59) fun z87=>
           Ld z87 ⟨z4.heap.size,0,none⟩ (.int .i64) fun x88=>
           Ld z87 (.add ⟨z4.heap.size,0,none⟩ 1) (.int .i64) fun x89=>
           R (x88,x89) 0 z87)))))
def pl136 : Plan := (.q (.seq (.q (.cond (.q .leaf) .leaf)) (.q (.q (.seq (.q (.cond (.q .leaf) .leaf)) (.q .leaf))))))
theorem T136 (m1 : Int × Int × Int × Int × Int × Int) (p2 : Int × Int) (w : World) (R : (Int × Int) -> Int -> World -> Prop) (h : S136 m1 p2 w R) : C136 (m1.1,m1.2.1,m1.2.2.1,m1.2.2.2.1,m1.2.2.2.2.1,m1.2.2.2.2.2) (p2.1,p2.2) w R := by
 have e : fnT Tryz.prog ⟨FF,MAY,(fun _ _=> False)⟩ pl136 Tryz.f136 [.agg #[.int .i64 (m1.1),.int .i64 (m1.2.1),.int .i64 (m1.2.2.1),.int .i64 (m1.2.2.2.1),.int .i64 (m1.2.2.2.2.1),.int .i64 (m1.2.2.2.2.2)],.agg #[.int .i64 (p2.1),.int .i64 (p2.2)]] w [(.agg [(.int .i64),(.int .i64)]),(.one (.int .i64))] (fun s w=> R s.1 s.2 w) = S136 m1 p2 w R := by kernel_rfl
 exact (fn_calls okF okM Tryz.func136 (by kernel_rfl) (by kernel_rfl) (e.mpr h)).mono fun _ _ ⟨s,he,hR⟩=> ⟨s.1,s.2,he,hR⟩
def S137L1 (x21 : Int) (x22 : Int) (x23 : Int) (x24 : Int) (R : Int -> Int -> World -> Prop) (I33 : (Int × Int) -> World -> Prop) (s31 : Int × Int) (z32 : World) : Prop :=
 Br (decide (s31.1 < s31.2)) (Lt (IntKind.i64.wrap ((IntKind.i64.wrap (Int.tdiv (IntKind.i64.wrap ((IntKind.i64.wrap (s31.1 + s31.2)) + 1)) 2)) * (IntKind.i64.wrap (Int.tdiv (IntKind.i64.wrap ((IntKind.i64.wrap (s31.1 + s31.2)) + 1)) 2)))) fun (x34 : Int)=>
  Lt (decide (x34 <= (IntKind.i64.wrap ((IntKind.i64.wrap (x21 * x22)) + (IntKind.i64.wrap (x23 * x24)))))) fun (x35 : Bool)=>
  Br x35 (I33 (IntKind.i64.wrap (Int.tdiv (IntKind.i64.wrap ((IntKind.i64.wrap (s31.1 + s31.2)) + 1)) 2),s31.2) z32) (Lt (IntKind.i64.wrap ((IntKind.i64.wrap (Int.tdiv (IntKind.i64.wrap ((IntKind.i64.wrap (s31.1 + s31.2)) + 1)) 2)) - 1)) fun (x36 : Int)=>
   I33 (s31.1,x36) z32)) (Br (decide (s31.1 > 1073741824)) (R 0 2 z32) (R s31.1 0 z32))
def S137 (m1 : Int × Int × Int × Int × Int × Int) (p2 : Int × Int) (w : World) (R : Int -> Int -> World -> Prop) : Prop :=
 Nw w (.cells #[.int .i64 (m1.1),.int .i64 (m1.2.1),.int .i64 (m1.2.2.1),.int .i64 (m1.2.2.2.1),.int .i64 (m1.2.2.2.2.1),.int .i64 (m1.2.2.2.2.2)] 24) fun z3=>
 Nw z3 (.cells #[.int .i64 (p2.1),.int .i64 (p2.2)] 68) fun z4=>
 St z4 (.add ⟨w.heap.size,0,none⟩ 4) (.int .i64 0) fun z5=>
 St z5 (.add ⟨w.heap.size,0,none⟩ 5) (.int .i64 0) fun z6=>
 Ld z6 ⟨w.heap.size,0,none⟩ (.int .i64) fun x7=>
 Ld z6 (.add ⟨w.heap.size,0,none⟩ 1) (.int .i64) fun x8=>
 Ld z6 (.add ⟨w.heap.size,0,none⟩ 2) (.int .i64) fun x9=>
 Ld z6 (.add ⟨w.heap.size,0,none⟩ 3) (.int .i64) fun x10=>
 Ld z6 (.add ⟨w.heap.size,0,none⟩ 4) (.int .i64) fun x11=>
 Ld z6 (.add ⟨w.heap.size,0,none⟩ 5) (.int .i64) fun x12=>
 Ld z6 ⟨z3.heap.size,0,none⟩ (.int .i64) fun x13=>
 Ld z6 (.add ⟨z3.heap.size,0,none⟩ 1) (.int .i64) fun x14=>
 C136 (x7,x8,x9,x10,x11,x12) (x13,x14) z6 fun r15 r16 z17=>
  Nw z17 (.cells #[.int .i64 0,.int .i64 0] 68) fun z18=>
  St z18 ⟨z17.heap.size,0,none⟩ (.int .i64 (r15.1)) fun z19=>
  St z19 (.add ⟨z17.heap.size,0,none⟩ 1) (.int .i64 (r15.2)) fun z20=>
  Br (r16 != 0) (R 0 r16 z20) (Ld z20 ⟨z17.heap.size,0,none⟩ (.int .i64) fun x21=>
   Ld z20 ⟨z17.heap.size,0,none⟩ (.int .i64) fun x22=>
   Ld z20 (.add ⟨z17.heap.size,0,none⟩ 1) (.int .i64) fun x23=>
   Ld z20 (.add ⟨z17.heap.size,0,none⟩ 1) (.int .i64) fun x24=>
   Lp (σ := Int × Int) (S137L1 x21 x22 x23 x24 R) (0,2147483648) z20)
def pl137 : Plan := (.q (.q (.q (.seq (.q (.cond (.q .leaf) .leaf)) (.q (.q (.seq (.block (.loop [(9,(.one (.int .i64))),(10,(.one (.int .i64)))] [8] (.seq (.q (.cond .leaf .leaf)) (.block (.q (.q (.cond (.reg .seq) (.reg .seq)))))))) (.seq (.q (.cond (.q .leaf) .leaf)) (.q .leaf)))))))))
theorem T137 (m1 : Int × Int × Int × Int × Int × Int) (p2 : Int × Int) (w : World) (R : Int -> Int -> World -> Prop) (h : S137 m1 p2 w R) : C137 (m1.1,m1.2.1,m1.2.2.1,m1.2.2.2.1,m1.2.2.2.2.1,m1.2.2.2.2.2) (p2.1,p2.2) w R := by
 have e : fnT Tryz.prog ⟨FF,MAY,(fun _ _=> False)⟩ pl137 Tryz.f137 [.agg #[.int .i64 (m1.1),.int .i64 (m1.2.1),.int .i64 (m1.2.2.1),.int .i64 (m1.2.2.2.1),.int .i64 (m1.2.2.2.2.1),.int .i64 (m1.2.2.2.2.2)],.agg #[.int .i64 (p2.1),.int .i64 (p2.2)]] w [(.one (.int .i64)),(.one (.int .i64))] (fun s w=> R s.1 s.2 w) = S137 m1 p2 w R := by kernel_rfl
 exact (fn_calls okF okM Tryz.func137 (by kernel_rfl) (by kernel_rfl) (e.mpr h)).mono fun _ _ ⟨s,he,hR⟩=> ⟨s.1,s.2,he,hR⟩
def S22 (w : World) (R : (Int × Int × Int × Int × Int × Int) -> World -> Prop) : Prop :=
 Nw w (.cells #[.int .i64 0,.int .i64 0,.int .i64 0,.int .i64 0,.int .i64 0,.int .i64 0] 24) fun z1=>
 St z1 ⟨w.heap.size,0,none⟩ (.int .i64 10000) fun z2=>
 St z2 (.add ⟨w.heap.size,0,none⟩ 1) (.int .i64 0) fun z3=>
 St z3 (.add ⟨w.heap.size,0,none⟩ 2) (.int .i64 0) fun z4=>
 St z4 (.add ⟨w.heap.size,0,none⟩ 3) (.int .i64 10000) fun z5=>
 St z5 (.add ⟨w.heap.size,0,none⟩ 4) (.int .i64 0) fun z6=>
 St z6 (.add ⟨w.heap.size,0,none⟩ 5) (.int .i64 0) fun z7=>
 Ld z7 ⟨w.heap.size,0,none⟩ (.int .i64) fun x8=>
 Ld z7 (.add ⟨w.heap.size,0,none⟩ 1) (.int .i64) fun x9=>
 Ld z7 (.add ⟨w.heap.size,0,none⟩ 2) (.int .i64) fun x10=>
 Ld z7 (.add ⟨w.heap.size,0,none⟩ 3) (.int .i64) fun x11=>
 Ld z7 (.add ⟨w.heap.size,0,none⟩ 4) (.int .i64) fun x12=>
 Ld z7 (.add ⟨w.heap.size,0,none⟩ 5) (.int .i64) fun x13=>
 R (x8,x9,x10,x11,x12,x13) z7
def pl22 : Plan := (.q (.q .leaf))
theorem T22 (w : World) (R : (Int × Int × Int × Int × Int × Int) -> World -> Prop) (h : S22 w R) : C22 w R := by
 have e : fnT Tryz.prog ⟨FF,MAY,(fun _ _=> False)⟩ pl22 Tryz.f22 [] w [(.agg [(.int .i64),(.int .i64),(.int .i64),(.int .i64),(.int .i64),(.int .i64)])] (fun s w=> R s w) = S22 w R := by kernel_rfl
 exact (fn_calls okF okM Tryz.func22 (by kernel_rfl) (by kernel_rfl) (e.mpr h)).mono fun _ _ ⟨s,he,hR⟩=> ⟨s,he,hR⟩
def S20 (x1 : Int) (y2 : Int) (w : World) (R : (Int × Int × Int × Int × Int × Int) -> World -> Prop) : Prop :=
 Nw w (.cells #[.int .i64 0,.int .i64 0,.int .i64 0,.int .i64 0,.int .i64 0,.int .i64 0] 24) fun z3=>
 St z3 ⟨w.heap.size,0,none⟩ (.int .i64 10000) fun z4=>
 St z4 (.add ⟨w.heap.size,0,none⟩ 1) (.int .i64 0) fun z5=>
 St z5 (.add ⟨w.heap.size,0,none⟩ 2) (.int .i64 0) fun z6=>
 St z6 (.add ⟨w.heap.size,0,none⟩ 3) (.int .i64 10000) fun z7=>
 St z7 (.add ⟨w.heap.size,0,none⟩ 4) (.int .i64 x1) fun z8=>
 St z8 (.add ⟨w.heap.size,0,none⟩ 5) (.int .i64 y2) fun z9=>
 Ld z9 ⟨w.heap.size,0,none⟩ (.int .i64) fun x10=>
 Ld z9 (.add ⟨w.heap.size,0,none⟩ 1) (.int .i64) fun x11=>
 Ld z9 (.add ⟨w.heap.size,0,none⟩ 2) (.int .i64) fun x12=>
 Ld z9 (.add ⟨w.heap.size,0,none⟩ 3) (.int .i64) fun x13=>
 Ld z9 (.add ⟨w.heap.size,0,none⟩ 4) (.int .i64) fun x14=>
 Ld z9 (.add ⟨w.heap.size,0,none⟩ 5) (.int .i64) fun x15=>
 R (x10,x11,x12,x13,x14,x15) z9
def pl20 : Plan := (.q (.q .leaf))
theorem T20 (x1 : Int) (y2 : Int) (w : World) (R : (Int × Int × Int × Int × Int × Int) -> World -> Prop) (h : S20 x1 y2 w R) : C20 x1 y2 w R := by
 have e : fnT Tryz.prog ⟨FF,MAY,(fun _ _=> False)⟩ pl20 Tryz.f20 [.int .i64 x1,.int .i64 y2] w [(.agg [(.int .i64),(.int .i64),(.int .i64),(.int .i64),(.int .i64),(.int .i64)])] (fun s w=> R s w) = S20 x1 y2 w R := by kernel_rfl
 exact (fn_calls okF okM Tryz.func20 (by kernel_rfl) (by kernel_rfl) (e.mpr h)).mono fun _ _ ⟨s,he,hR⟩=> ⟨s,he,hR⟩
end Go.Proofs.YtcblpehnkogfdaaGreatDoor

/- Package matrix: products, images, lengths and boxes, of the program. No condition. -/
namespace Go.Proofs.YtcblpehnkogfdaaGreatDoor
namespace Mat
open Sh Fix
set_option maxRecDepth 4000
abbrev Mx := Int × Int × Int × Int × Int × Int
def comps (m : Mx) : List Int := [m.1,m.2.1,m.2.2.1,m.2.2.2.1,m.2.2.2.2.1,m.2.2.2.2.2]
def okM (m : Mx) : Bool := (comps m).all inW
def mrow (m : Mx) : List Value := [.int .i64 m.1,.int .i64 m.2.1,.int .i64 m.2.2.1,.int .i64 m.2.2.2.1,.int .i64 m.2.2.2.2.1,.int .i64 m.2.2.2.2.2]
def mulP (a b : Mx) : Option Mx := if okM a = true /\ okM b = true then
  (dotP [a.1,b.1,a.2.1,b.2.2.1]).bind fun p=> (dotP [a.1,b.2.1,a.2.1,b.2.2.2.1]).bind fun q=> (dotP [a.2.2.1,b.1,a.2.2.2.1,b.2.2.1]).bind fun r=> (dotP [a.2.2.1,b.2.1,a.2.2.2.1,b.2.2.2.1]).bind fun s=>
  (dotP [a.2.2.2.2.1,b.1,a.2.2.2.2.2,b.2.2.1,b.2.2.2.2.1,10000]).bind fun t=> (dotP [a.2.2.2.2.1,b.2.1,a.2.2.2.2.2,b.2.2.2.1,b.2.2.2.2.2,10000]).bind fun u=> some (p,q,r,s,t,u)
 else none
def resM : Option Mx -> Mx × Int
 | some m=> (m,0)
 | none=> ((0,0,0,0,0,0),2)
def applyP (m : Mx) (p : Int × Int) : Option (Int × Int) := if okM m = true /\ inW p.1 = true /\ inW p.2 = true then
  (dotP [p.1,m.1,p.2,m.2.2.1,m.2.2.2.2.1,10000]).bind fun x=> (dotP [p.1,m.2.1,p.2,m.2.2.2.1,m.2.2.2.2.2,10000]).bind fun y=> some (x,y)
 else none
def resP : Option (Int × Int) -> (Int × Int) × Int
 | some p=> (p,0)
 | none=> ((0,0),2)
theorem row4 {w : World} {b : Nat} {t : TypeId} {x0 x1 x2 x3 : Int} (h : Blk w b #[.int .i64 x0,.int .i64 x1,.int .i64 x2,.int .i64 x3] t) : IRow w ⟨some ⟨b,0,none⟩,4,4⟩ [x0,x1,x2,x3] :=
 IRow.of h rfl fun i hi=> by
  have : i = 0 \/ i = 1 \/ i = 2 \/ i = 3 := by simp at hi; omega
  rcases this with rfl | rfl | rfl | rfl <;> rfl
theorem row6 {w : World} {b : Nat} {t : TypeId} {x0 x1 x2 x3 x4 x5 : Int} (h : Blk w b #[.int .i64 x0,.int .i64 x1,.int .i64 x2,.int .i64 x3,.int .i64 x4,.int .i64 x5] t) : IRow w ⟨some ⟨b,0,none⟩,6,6⟩ [x0,x1,x2,x3,x4,x5] :=
 IRow.of h rfl fun i hi=> by
  have : i = 0 \/ i = 1 \/ i = 2 \/ i = 3 \/ i = 4 \/ i = 5 := by simp at hi; omega
  rcases this with rfl | rfl | rfl | rfl | rfl | rfl <;> rfl
theorem dotP_in {l : List Int} {n : Int} (h : dotP l = some n) : inW n = true := by
 unfold dotP at h
 split at h
 ·rename_i h2; cases h; exact h2.2
 ·cases h
theorem c_out (n : Int) (w : World) : C94 n w fun r w1=> r = (!inW n) /\ w1 = w := by
 refine T94 _ _ _ ?_
 unfold S94
 refine Br.dec (fun h=> ⟨?_,rfl⟩) fun h=> ⟨?_,rfl⟩
 ·rw [inW_no.2 (by omega)]; rfl
 ·by_cases h2 : n > 1073741824
  ·rw [inW_no.2 (by omega),decide_eq_true h2]; rfl
  ·rw [inW_spec.2 (by omega),decide_eq_false h2]; rfl
def gup (e : Int) : Value := .iface 191 (.agg #[.int .i64 e])
theorem c_need (e : Int) (w : World) : C134 e w (fun w1=> e = 0 /\ w1 = w) fun v w1=> v = gup e /\ e ≠ 0 /\ w1 = w := by
 refine T134 _ _ _ _ ?_
 unfold S134
 exact Br.ne (fun h=> ⟨rfl,h,rfl⟩) fun h=> ⟨h,rfl⟩
theorem c_dot {s : Slc} {l : List Int} {w : World} (h : IRow w s l) (hl : l.length = 4 \/ l.length = 6) : C135 s w (fun r w1=> dotP l = some r /\ Ext (fun _=> False) w w1) fun v w1=> v = gup 2 /\ dotP l = none /\ Ext (fun _=> False) w w1 := by
 refine T135 _ _ _ _ ?_
 unfold S135
 refine (Fix.c_dot h (by omega)).mono ?_
 rintro r e w1 ⟨h1,he⟩
 have hd : dotF l = match dotP l with
  | some n=> (n,0)
  | none=> (0,2) := if_neg (by omega)
 rw [hd] at h1
 cases hp : dotP l with
 | none=>
  rw [hp] at h1
  cases h1
  refine (c_need _ _).mono (fun w2 h=> absurd h.1 (by omega)) fun v w2 h=> ⟨h.1,rfl,?_⟩
  obtain ⟨_,_,rfl⟩ := h
  exact he
 | some n=>
  rw [hp] at h1
  cases h1
  refine (c_need _ _).mono (fun w2 h=> ?_) fun v w2 h=> absurd rfl h.2.1
  obtain ⟨_,rfl⟩ := h
  refine (c_out _ _).mono ?_
  rintro b _ ⟨rfl,rfl⟩
  rw [dotP_in hp]
  exact ⟨rfl,he⟩
theorem c_parts {w0 w : World} {L : List (Nat × List Value × TypeId)} {b : Nat} (h : Hn w0 w L) : C93 (some (⟨b,0,none⟩ : Addr)) w fun r w1=> r = (some (⟨b,0,none⟩ : Addr),some (⟨b,1,none⟩ : Addr),some (⟨b,2,none⟩ : Addr),some (⟨b,3,none⟩ : Addr),some (⟨b,4,none⟩ : Addr),some (⟨b,5,none⟩ : Addr)) /\ Ext (fun _=> False) w w1 := by
 refine T93 _ _ _ ?_
 unfold S93
 refine (Hn.start w).nw fun w2 H=> ?_
 have H := H.drew
 simp only [add_lit]
 refine Nn.of (Nn.of (Nn.of (Nn.of (Nn.of (Nn.of ?_)))))
 simp only [add_lit,Nat.zero_add]
 refine H.st 0 rfl (by simp) fun _ H=> ?_
 refine H.st 0 rfl (by simp) fun _ H=> ?_
 refine H.st 0 rfl (by simp) fun _ H=> ?_
 refine H.st 0 rfl (by simp) fun _ H=> ?_
 refine H.st 0 rfl (by simp) fun _ H=> ?_
 refine H.st 0 rfl (by simp) fun _ H=> ?_
 refine H.ld 0 rfl rfl ?_
 refine H.ld 0 rfl rfl ?_
 refine H.ld 0 rfl rfl ?_
 refine H.ld 0 rfl rfl ?_
 refine H.ld 0 rfl rfl ?_
 refine H.ld 0 rfl rfl ?_
 exact ⟨rfl,H.ext⟩
theorem c_check (m : Mx) (w : World) : C57 m w fun r w1=> r = (if okM m = true then 0 else 2) /\ Ext (fun _=> False) w w1 := by
 refine T57 _ _ _ ?_
 unfold S57
 refine (Hn.start w).nw fun w2 H=> (c_parts H).mono ?_
 rintro r w3 ⟨rfl,he⟩
 have H := H.keep he
 refine ⟨fun n st w4=> ∃ i : Nat,st = (i : Int) /\ i <= 6 /\ n = 6 - i /\ w4 = w3 /\ ∀ j,j < i -> inW ((comps m).getD j 0) = true,6,⟨0,rfl,by omega,rfl,rfl,fun j hj=> by omega⟩,?_⟩
 rintro n st w4 ⟨i,rfl,hi,rfl,rfl,hall⟩
 unfold S57L1
 refine Br.dec (fun e=> ⟨by omega,by omega,?_⟩) fun e=> ⟨?_,H.ext⟩
 ·have fin : ∀ x : Int,(comps m).getD i 0 = x -> C94 x w4 fun r11 vw12=> Br r11 ((2 : Int) = (if okM m = true then 0 else 2) /\ Ext (fun _=> False) w vw12) (∃ n',n' < 6 - i /\ ∃ i' : Nat,IntKind.i64.wrap ((i : Int) + 1) = (i' : Int) /\ i' <= 6 /\ n' = 6 - i' /\ vw12 = w4 /\ ∀ j,j < i' -> inW ((comps m).getD j 0) = true) := fun x hx=> by
   refine (c_out _ _).mono ?_
   rintro r _ ⟨rfl,rfl⟩
   cases hw : inW x with
   | true=>
    refine ⟨6 - (i + 1),by omega,i + 1,by rw [i64_id (by omega)]; rfl,by omega,rfl,rfl,fun j hj=> ?_⟩
    by_cases hji : j = i
    ·rw [hji,hx]; exact hw
    ·exact hall j (by omega)
   | false=>
    refine ⟨?_,H.ext⟩
    rw [if_neg]
    intro hm
    have := (all_iff _).1 hm i (by show i < 6; omega)
    rw [hx,hw] at this
    cases this
  have hc : i = 0 \/ i = 1 \/ i = 2 \/ i = 3 \/ i = 4 \/ i = 5 := by omega
  rcases hc with rfl | rfl | rfl | rfl | rfl | rfl <;> exact ⟨_,rfl,Nn.of (H.ld 0 rfl rfl (fin _ (by rfl)))⟩
 ·rw [if_pos]
  exact (all_iff _).2 fun j hj=> hall j (by have : j < 6 := hj; omega)
theorem c_caught_nil (a : Option Addr) (w : World) : C133 Value.nilIface a w (fun w1=> w1 = w) fun _ _=> False := by
 refine T133_nil _ _ _ _ ?_
 unfold S133_nil
 rfl
theorem c_caught {w0 w : World} {L : List (Nat × List Value × TypeId)} {b o : Nat} {cs : List Value} {t : TypeId} (H : Hn w0 w L) (e : Int) (i : Nat) (hi : L[i]? = some (b,cs,t)) (ho : o < cs.length) :
  C133 (gup e) (some ⟨b,o,none⟩) w (fun w1=> Hn w0 w1 (L.set i (b,cs.set o (.int .i64 e),t))) fun _ _=> False := by
 refine T133_T191 _ _ _ _ _ ?_
 unfold S133_T191
 have hi' : (L ++ [(w.heap.size,[.int .i64 0],191)])[i]? = some (b,cs,t) := by
  rw [List.getElem?_append_left (List.getElem?_eq_some_iff.1 hi).1]; exact hi
 have hl : (L ++ [(w.heap.size,[.int .i64 0],191)])[L.length]? = some (w.heap.size,[.int .i64 0],191) := by simp
 refine H.nw' fun w2 H2 he2=> ?_
 refine H2.st' L.length hl (by simp) fun w3 H3 he3=> ?_
 have hlen : L.length < (L ++ [(w.heap.size,[Value.int .i64 0],191)]).length := by simp
 refine H3.ld L.length (by rw [List.getElem?_set_self hlen]) rfl (Nn.of ?_)
 have H4 := H.keep he2
 have H5 := H4.other he3 (fun j hj=> ⟨by rw [hj]; exact H.size,fun hm=> by
  have := H.all_lt hm
  omega⟩)
 exact H5.st i hi ho fun w4 H6=> H6
section
variable {w0 w : World}
theorem c_mulD (a b p : Mx) (e : Int) {L : List (Nat × List Value × TypeId)} {b1 b2 : Nat} {t1 t2 : TypeId} {R : World -> Prop}
  (H : Hn w0 w L) (i j : Nat) (hi : L[i]? = some (b2,mrow p,t2)) (hj : L[j]? = some (b1,[.int .i64 e],t1)) (he : e = 0)
  (k : R w) : CD132 (⟨b1,0,none⟩ : Addr) (⟨b2,0,none⟩ : Addr) none w R := by
 refine T132_nil _ _ _ _ ?_
 unfold S132_nil
 refine (c_caught_nil _ _).mono (fun w1 h=> ?_) fun _ _ h=> h.elim
 subst h
 refine H.ld j hj rfl ?_
 exact Br.ne (fun h=> absurd he h) fun _=> k
theorem c_mul (a b : Mx) (w : World) : C115 a b w fun r e w1=> (r,e) = resM (mulP a b) /\ Ext (fun _=> False) w w1 := by
 refine T115 _ _ _ _ ?_
 unfold S115
 refine (Hn.start w).nw fun w3 H=> H.nw fun w4 H=> H.nw fun w5 H=> H.nw fun w6 H=> ?_
 have caught : ∀ (p : Mx) (c : Int) (v : Value) (w7 : World),Hn w w7 [(w.heap.size,mrow a,24),(w3.heap.size,mrow b,24),(w4.heap.size,mrow p,24),(w5.heap.size,[.int .i64 c],43)] -> v = gup 2 -> mulP a b = none ->
   S115P w4 w5 (fun r e w1=> (r,e) = resM (mulP a b) /\ Ext (fun _=> False) w w1) v w7 := fun p c v w7 H hv hm=> by
  subst hv
  unfold S115P
  refine T132_T191 _ _ 2 _ _ ?_
  unfold S132_T191
  refine (c_caught H 2 3 rfl (by simp)).mono (fun w8 H=> ?_) fun _ _ h=> h.elim
  refine H.ld 3 rfl rfl (Br.ne (fun _=> ?_) fun h=> by cases h)
  refine H.st 2 rfl (by simp [mrow]) fun _ H=> H.st 2 rfl (by simp [mrow]) fun _ H=> H.st 2 rfl (by simp [mrow]) fun _ H=> H.st 2 rfl (by simp [mrow]) fun _ H=> H.st 2 rfl (by simp [mrow]) fun _ H=> H.st 2 rfl (by simp [mrow]) fun _ H=> ?_
  refine H.ld 2 rfl rfl (H.ld 2 rfl rfl (H.ld 2 rfl rfl (H.ld 2 rfl rfl (H.ld 2 rfl rfl (H.ld 2 rfl rfl (H.ld 3 rfl rfl ⟨?_,H.ext⟩))))))
  rw [hm]
  rfl
 have no : ∀ {w7 : World} {v : Value},Ext (fun _=> False) w6 w7 -> v = gup 2 -> mulP a b = none -> S115P w4 w5 (fun r e w1=> (r,e) = resM (mulP a b) /\ Ext (fun _=> False) w w1) v w7 := fun he hv hm=> caught (0,0,0,0,0,0) 0 _ _ (H.keep he) hv hm
 repeat (first | refine H.ld 0 rfl rfl ?_ | refine H.ld 1 rfl rfl ?_ | refine H.ld 2 rfl rfl ?_ | refine H.ld 3 rfl rfl ?_ | refine H.ld 4 rfl rfl ?_ | refine H.ld 5 rfl rfl ?_)
 refine (c_check a _).mono ?_
 rintro r w7 ⟨rfl,he⟩
 have e7 := he
 have H := H.keep he
 refine (c_need _ _).mono (fun w8 h8=> ?_) fun v w8 h8=> ?_
 case refine_2=>
  obtain ⟨hv,hne,rfl⟩ := h8
  have hka : ¬ okM a = true := fun h=> hne (if_pos h)
  rw [if_neg hka] at hv
  exact no e7 hv (if_neg fun h=> hka h.1)
 obtain ⟨hz,rfl⟩ := h8
 have hka : okM a = true := by
  refine Decidable.byContradiction fun h=> ?_
  rw [if_neg h] at hz
  cases hz
 repeat (first | refine H.ld 0 rfl rfl ?_ | refine H.ld 1 rfl rfl ?_ | refine H.ld 2 rfl rfl ?_ | refine H.ld 3 rfl rfl ?_ | refine H.ld 4 rfl rfl ?_ | refine H.ld 5 rfl rfl ?_)
 refine (c_check b _).mono ?_
 rintro r w9 ⟨rfl,he⟩
 have e9 := e7.tr he
 have H := H.keep he
 refine (c_need _ _).mono (fun w10 h8=> ?_) fun v w10 h8=> ?_
 case refine_2=>
  obtain ⟨hv,hne,rfl⟩ := h8
  have hkb : ¬ okM b = true := fun h=> hne (if_pos h)
  rw [if_neg hkb] at hv
  exact no e9 hv (if_neg fun h=> hkb h.2)
 obtain ⟨hz,rfl⟩ := h8
 have hkb : okM b = true := by
  refine Decidable.byContradiction fun h=> ?_
  rw [if_neg h] at hz
  cases hz
 have HD := H.drew
 have eD := e9.drew
 have hmul : mulP a b = (dotP [a.1,b.1,a.2.1,b.2.2.1]).bind fun p=> (dotP [a.1,b.2.1,a.2.1,b.2.2.2.1]).bind fun q=> (dotP [a.2.2.1,b.1,a.2.2.2.1,b.2.2.1]).bind fun r=> (dotP [a.2.2.1,b.2.1,a.2.2.2.1,b.2.2.2.1]).bind fun s=>
  (dotP [a.2.2.2.2.1,b.1,a.2.2.2.2.2,b.2.2.1,b.2.2.2.2.1,10000]).bind fun t=> (dotP [a.2.2.2.2.1,b.2.1,a.2.2.2.2.2,b.2.2.2.1,b.2.2.2.2.2,10000]).bind fun u=> some (p,q,r,s,t,u) := if_pos ⟨hka,hkb⟩
 have bnone : ∀ {α β : Type} (x : Option α),(x.bind fun _=> (none : Option β)) = none := fun x=> by cases x <;> rfl
 have no' : ∀ {w11 w12 : World} {v : Value},Ext (fun _=> False) w10.drew w11 -> Ext (fun _=> False) w11 w12 -> v = gup 2 -> mulP a b = none -> S115P w4 w5 (fun r e w1=> (r,e) = resM (mulP a b) /\ Ext (fun _=> False) w w1) v w12 := fun h1 h2 hv hm=> no ((eD.tr h1).tr h2) hv hm
 have hS0 : ∀ w11,Ext (fun _=> False) w10.drew w11 -> Blk w11 w.heap.size (mrow a).toArray 24 := fun w11 h=> (HD.keep h).get 0 rfl
 have hS1 : ∀ w11,Ext (fun _=> False) w10.drew w11 -> Blk w11 w3.heap.size (mrow b).toArray 24 := fun w11 h=> (HD.keep h).get 1 rfl
 refine ⟨fun w11=> Ext (fun _=> False) w10.drew w11,Ext.refl _ _,?_⟩
 repeat (first | refine LdS.of hS0 rfl ?_ | refine LdS.of hS1 rfl ?_)
 have eN : ∀ (w11 : World) (o : Obj),Ext (fun _=> False) w11 (w11.alloc o) := fun w11 o=> (Ext.refl _ _).alloc o
 refine ⟨fun a b=> Ext (fun _=> False) a b,fun _=> True,trivial,
  fun x w'=> IRow w' x [a.1,b.1,a.2.1,b.2.2.1],fun x _ _ h h2=> h2.keep h,fun x _=> dotP [a.1,b.1,a.2.1,b.2.2.1] = some x,fun _ _ _ _ h=> h,
  fun x w'=> IRow w' x [a.1,b.2.1,a.2.1,b.2.2.2.1],fun x _ _ h h2=> h2.keep h,fun x _=> dotP [a.1,b.2.1,a.2.1,b.2.2.2.1] = some x,fun _ _ _ _ h=> h,
  fun x w'=> IRow w' x [a.2.2.1,b.1,a.2.2.2.1,b.2.2.1],fun x _ _ h h2=> h2.keep h,fun x _=> dotP [a.2.2.1,b.1,a.2.2.2.1,b.2.2.1] = some x,fun _ _ _ _ h=> h,
  fun x w'=> IRow w' x [a.2.2.1,b.2.1,a.2.2.2.1,b.2.2.2.1],fun x _ _ h h2=> h2.keep h,fun x _=> dotP [a.2.2.1,b.2.1,a.2.2.2.1,b.2.2.2.1] = some x,fun _ _ _ _ h=> h,
  fun x w'=> IRow w' x [a.2.2.2.2.1,b.1,a.2.2.2.2.2,b.2.2.1,b.2.2.2.2.1,10000],fun x _ _ h h2=> h2.keep h,fun x _=> dotP [a.2.2.2.2.1,b.1,a.2.2.2.2.2,b.2.2.1,b.2.2.2.2.1,10000] = some x,fun _ _ _ _ h=> h,
  fun x w'=> IRow w' x [a.2.2.2.2.1,b.2.1,a.2.2.2.2.2,b.2.2.2.1,b.2.2.2.2.2,10000],fun x _ _ h h2=> h2.keep h,⟨?n1,?c1,?n2,?c2,?n3,?c3,?n4,?c4,?n5,?c5,?n6,trivial⟩,?fin⟩
 case n1=> exact fun w11 h _=> ⟨h.tr (eN _ _),trivial,eN _ _,_,rfl,row4 (Blk.new _ _ _)⟩
 case n2=> exact fun w11 h _=> ⟨h.tr (eN _ _),trivial,eN _ _,_,rfl,row4 (Blk.new _ _ _)⟩
 case n3=> exact fun w11 h _=> ⟨h.tr (eN _ _),trivial,eN _ _,_,rfl,row4 (Blk.new _ _ _)⟩
 case n4=> exact fun w11 h _=> ⟨h.tr (eN _ _),trivial,eN _ _,_,rfl,row4 (Blk.new _ _ _)⟩
 case n5=> exact fun w11 h _=> ⟨h.tr (eN _ _),trivial,eN _ _,_,rfl,row6 (Blk.new _ _ _)⟩
 case n6=> exact fun w11 h _=> ⟨h.tr (eN _ _),trivial,eN _ _,_,rfl,row6 (Blk.new _ _ _)⟩
 case c1=> exact fun w11 h _ x hx=> (c_dot hx (.inl rfl)).mono (fun r w12 h2=> ⟨h.tr h2.2,trivial,h2.2,r,rfl,h2.1⟩) fun v w12 h2=> no' h h2.2.2 h2.1 (by rw [hmul,h2.2.1]; rfl)
 case c2=> exact fun w11 h _ x hx=> (c_dot hx (.inl rfl)).mono (fun r w12 h2=> ⟨h.tr h2.2,trivial,h2.2,r,rfl,h2.1⟩) fun v w12 h2=> no' h h2.2.2 h2.1 (by rw [hmul,h2.2.1]; simp [bnone])
 case c3=> exact fun w11 h _ x hx=> (c_dot hx (.inl rfl)).mono (fun r w12 h2=> ⟨h.tr h2.2,trivial,h2.2,r,rfl,h2.1⟩) fun v w12 h2=> no' h h2.2.2 h2.1 (by rw [hmul,h2.2.1]; simp [bnone])
 case c4=> exact fun w11 h _ x hx=> (c_dot hx (.inl rfl)).mono (fun r w12 h2=> ⟨h.tr h2.2,trivial,h2.2,r,rfl,h2.1⟩) fun v w12 h2=> no' h h2.2.2 h2.1 (by rw [hmul,h2.2.1]; simp [bnone])
 case c5=> exact fun w11 h _ x hx=> (c_dot hx (.inr rfl)).mono (fun r w12 h2=> ⟨h.tr h2.2,trivial,h2.2,r,rfl,h2.1⟩) fun v w12 h2=> no' h h2.2.2 h2.1 (by rw [hmul,h2.2.1]; simp [bnone])
 case fin=>
  intro w11 h _ _ _ x1 h1 _ _ x2 h2 _ _ x3 h3 _ _ x4 h4 _ _ x5 h5 _ hx6
  refine (c_dot hx6 (.inr rfl)).mono (fun x6 w12 h12=> ?_) fun v w12 h12=> no' h h12.2.2 h12.1 (by rw [hmul,h12.2.1]; simp [bnone])
  have H := HD.keep (h.tr h12.2)
  refine H.st 2 rfl (by simp) fun _ H=> H.st 2 rfl (by simp) fun _ H=> H.st 2 rfl (by simp) fun _ H=> H.st 2 rfl (by simp) fun _ H=> H.st 2 rfl (by simp) fun _ H=> H.st 2 rfl (by simp) fun _ H=> H.st 3 rfl (by simp) fun w14 H=> ?_
  refine c_mulD a b (x1,x2,x3,x4,x5,x6) 0 H 2 3 rfl rfl rfl ?_
  refine H.ld 2 rfl rfl (H.ld 2 rfl rfl (H.ld 2 rfl rfl (H.ld 2 rfl rfl (H.ld 2 rfl rfl (H.ld 2 rfl rfl (H.ld 3 rfl rfl ⟨?_,H.ext⟩))))))
  rw [hmul,h1,h2,h3,h4,h5,h12.1]
  rfl
end
end Mat
end Go.Proofs.YtcblpehnkogfdaaGreatDoor

/- Package matrix: images, lengths and boxes, of the program. No condition. -/
namespace Go.Proofs.YtcblpehnkogfdaaGreatDoor
namespace Mat
open Sh Fix
set_option maxRecDepth 4000
set_option maxHeartbeats 1000000
attribute [local irreducible] Ld St Nw Nn Lt LdS
theorem bnone {α β : Type} (x : Option α) : (x.bind fun _=> (none : Option β)) = none := by cases x <;> rfl
theorem c_apply (m : Mx) (p : Int × Int) (w : World) : C122 m p w fun r e w1=> (r,e) = resP (applyP m p) /\ Ext (fun _=> False) w w1 := by
 refine T122 _ _ _ _ ?_
 unfold S122
 refine (Hn.start w).nw fun w3 H=> H.nw fun w4 H=> H.nw fun w5 H=> H.nw fun w6 H=> ?_
 have caught : ∀ (q : Int × Int) (c : Int) (v : Value) (w7 : World),Hn w w7 [(w.heap.size,mrow m,24),(w3.heap.size,[.int .i64 p.1,.int .i64 p.2],68),(w4.heap.size,[.int .i64 q.1,.int .i64 q.2],68),(w5.heap.size,[.int .i64 c],43)] -> v = gup 2 -> applyP m p = none ->
   S122P w4 w5 (fun r e w1=> (r,e) = resP (applyP m p) /\ Ext (fun _=> False) w w1) v w7 := fun q c v w7 H hv hm=> by
  subst hv
  unfold S122P
  refine T142_T191 _ _ 2 _ _ ?_
  unfold S142_T191
  refine (c_caught H 2 3 rfl (by simp)).mono (fun w8 H=> ?_) fun _ _ h=> h.elim
  refine H.ld 3 rfl rfl (Br.ne (fun _=> ?_) fun h=> by cases h)
  repeat (first | refine Lt.of ?_ | refine Nn.of ?_ | refine H.ld 0 rfl rfl ?_ | refine H.ld 1 rfl rfl ?_ | refine H.ld 2 rfl rfl ?_ | refine H.ld 3 rfl rfl ?_ | refine H.ld 4 rfl rfl ?_ | refine H.ld 5 rfl rfl ?_ | (refine H.st 0 rfl (by simp) fun _ H=> ?_; simp only [List.nil_append,List.cons_append,List.set_cons_zero,List.set_cons_succ,Nat.zero_add] at H) | (refine H.st 1 rfl (by simp) fun _ H=> ?_; simp only [List.nil_append,List.cons_append,List.set_cons_zero,List.set_cons_succ,Nat.zero_add] at H) | (refine H.st 2 rfl (by simp) fun _ H=> ?_; simp only [List.nil_append,List.cons_append,List.set_cons_zero,List.set_cons_succ,Nat.zero_add] at H) | (refine H.st 3 rfl (by simp) fun _ H=> ?_; simp only [List.nil_append,List.cons_append,List.set_cons_zero,List.set_cons_succ,Nat.zero_add] at H) | (refine H.st 4 rfl (by simp) fun _ H=> ?_; simp only [List.nil_append,List.cons_append,List.set_cons_zero,List.set_cons_succ,Nat.zero_add] at H) | (refine H.st 5 rfl (by simp) fun _ H=> ?_; simp only [List.nil_append,List.cons_append,List.set_cons_zero,List.set_cons_succ,Nat.zero_add] at H))
  refine ⟨?_,H.ext⟩
  rw [hm]
  rfl
 have no : ∀ {w7 : World} {v : Value},Ext (fun _=> False) w6 w7 -> v = gup 2 -> applyP m p = none -> S122P w4 w5 (fun r e w1=> (r,e) = resP (applyP m p) /\ Ext (fun _=> False) w w1) v w7 := fun he hv hm=> caught (0,0) 0 _ _ (H.keep he) hv hm
 repeat (first | refine H.ld 0 rfl rfl ?_ | refine H.ld 1 rfl rfl ?_ | refine H.ld 2 rfl rfl ?_ | refine H.ld 3 rfl rfl ?_ | refine H.ld 4 rfl rfl ?_ | refine H.ld 5 rfl rfl ?_)
 refine (c_check m _).mono ?_
 rintro r w7 ⟨rfl,he⟩
 have e7 := he
 have H := H.keep he
 refine (c_need _ _).mono (fun w8 h8=> ?_) fun v w8 h8=> ?_
 case refine_2=>
  obtain ⟨hv,hne,rfl⟩ := h8
  have hka : ¬ okM m = true := fun h=> hne (if_pos h)
  rw [if_neg hka] at hv
  exact no e7 hv (if_neg fun h=> hka h.1)
 obtain ⟨hz,rfl⟩ := h8
 have hka : okM m = true := by
  refine Decidable.byContradiction fun h=> ?_
  rw [if_neg h] at hz
  cases hz
 refine ⟨fun _ w9=> w9 = w8 /\ inW p.1 = true /\ inW p.2 = true,?_,?_⟩
 case refine_2=>
  have two : ∀ {Q : World -> Prop},(¬ (inW p.1 = true /\ inW p.2 = true)) -> C134 2 w8 Q (S122P w4 w5 (fun r e w1=> (r,e) = resP (applyP m p) /\ Ext (fun _=> False) w w1)) := fun hn=> (c_need _ _).mono (fun w9 h=> absurd h.1 (by omega)) fun v w9 h=> by
   obtain ⟨hv,_,rfl⟩ := h
   exact no e7 hv (if_neg fun h=> hn h.2)
  refine H.ld 1 rfl rfl ((c_out _ _).mono ?_)
  rintro b _ ⟨rfl,rfl⟩
  refine Br_of (fun h=> two fun h2=> by rw [h2.1] at h; cases h) fun h1=> H.ld 1 rfl rfl ((c_out _ _).mono ?_)
  rintro b _ ⟨rfl,rfl⟩
  exact Br_of (fun h=> two fun h2=> by rw [h2.2] at h; cases h) fun h2=> ⟨rfl,by simpa using h1,by simpa using h2⟩
 rintro _ w9 ⟨rfl,hi1,hi2⟩
 unfold S122J1
 have HD := H.drew
 have eD := e7.drew
 have happ : applyP m p = (dotP [p.1,m.1,p.2,m.2.2.1,m.2.2.2.2.1,10000]).bind fun x=> (dotP [p.1,m.2.1,p.2,m.2.2.2.1,m.2.2.2.2.2,10000]).bind fun y=> some (x,y) := if_pos ⟨hka,hi1,hi2⟩
 have no' : ∀ {w11 w12 : World} {v : Value},Ext (fun _=> False) w9.drew w11 -> Ext (fun _=> False) w11 w12 -> v = gup 2 -> applyP m p = none -> S122P w4 w5 (fun r e w1=> (r,e) = resP (applyP m p) /\ Ext (fun _=> False) w w1) v w12 := fun h1 h2 hv hm=> no ((eD.tr h1).tr h2) hv hm
 have hS0 : ∀ w11,Ext (fun _=> False) w9.drew w11 -> Blk w11 w.heap.size (mrow m).toArray 24 := fun w11 h=> (HD.keep h).get 0 rfl
 have hS1 : ∀ w11,Ext (fun _=> False) w9.drew w11 -> Blk w11 w3.heap.size #[.int .i64 p.1,.int .i64 p.2] 68 := fun w11 h=> (HD.keep h).get 1 rfl
 have eN : ∀ (w11 : World) (o : Obj),Ext (fun _=> False) w11 (w11.alloc o) := fun w11 o=> (Ext.refl _ _).alloc o
 have fin : ∀ (x y : Int) (w12 : World),Ext (fun _=> False) w9.drew w12 -> dotP [p.1,m.1,p.2,m.2.2.1,m.2.2.2.2.1,10000] = some x -> dotP [p.1,m.2.1,p.2,m.2.2.2.1,m.2.2.2.2.2,10000] = some y ->
   St w12 (⟨w4.heap.size,0,none⟩ : Addr) (.int .i64 x) fun vw49=>
     St vw49 ((⟨w4.heap.size,0,none⟩ : Addr).add 1) (.int .i64 y) fun vw50=>
     St vw50 (⟨w5.heap.size,0,none⟩ : Addr) (.int .i64 0) fun vw51=>
     CD142 (⟨w5.heap.size,0,none⟩ : Addr) (⟨w4.heap.size,0,none⟩ : Addr) none vw51 fun vw52=>
      Ld vw52 (⟨w4.heap.size,0,none⟩ : Addr) (Value.int .i64) fun (x53 : Int)=>
      Ld vw52 ((⟨w4.heap.size,0,none⟩ : Addr).add 1) (Value.int .i64) fun (x54 : Int)=>
      Ld vw52 (⟨w5.heap.size,0,none⟩ : Addr) (Value.int .i64) fun (x55 : Int)=>
      ((x53,x54),x55) = resP (applyP m p) /\ Ext (fun _=> False) w vw52 := fun x y w12 he hx hy=> by
  have H := HD.keep he
  repeat (first | refine Lt.of ?_ | refine Nn.of ?_ | refine H.ld 0 rfl rfl ?_ | refine H.ld 1 rfl rfl ?_ | refine H.ld 2 rfl rfl ?_ | refine H.ld 3 rfl rfl ?_ | refine H.ld 4 rfl rfl ?_ | refine H.ld 5 rfl rfl ?_ | (refine H.st 0 rfl (by simp) fun _ H=> ?_; simp only [List.nil_append,List.cons_append,List.set_cons_zero,List.set_cons_succ,Nat.zero_add] at H) | (refine H.st 1 rfl (by simp) fun _ H=> ?_; simp only [List.nil_append,List.cons_append,List.set_cons_zero,List.set_cons_succ,Nat.zero_add] at H) | (refine H.st 2 rfl (by simp) fun _ H=> ?_; simp only [List.nil_append,List.cons_append,List.set_cons_zero,List.set_cons_succ,Nat.zero_add] at H) | (refine H.st 3 rfl (by simp) fun _ H=> ?_; simp only [List.nil_append,List.cons_append,List.set_cons_zero,List.set_cons_succ,Nat.zero_add] at H) | (refine H.st 4 rfl (by simp) fun _ H=> ?_; simp only [List.nil_append,List.cons_append,List.set_cons_zero,List.set_cons_succ,Nat.zero_add] at H) | (refine H.st 5 rfl (by simp) fun _ H=> ?_; simp only [List.nil_append,List.cons_append,List.set_cons_zero,List.set_cons_succ,Nat.zero_add] at H))
  refine T142_nil _ _ _ _ ?_
  unfold S142_nil
  refine (c_caught_nil _ _).mono (fun w1 h=> ?_) fun _ _ h=> h.elim
  subst h
  refine H.ld 3 rfl rfl (Br.ne (fun h=> absurd rfl h) fun _=> ?_)
  repeat (first | refine H.ld 0 rfl rfl ?_ | refine H.ld 1 rfl rfl ?_ | refine H.ld 2 rfl rfl ?_ | refine H.ld 3 rfl rfl ?_ | refine H.ld 4 rfl rfl ?_ | refine H.ld 5 rfl rfl ?_)
  refine ⟨?_,H.ext⟩
  rw [happ,hx,hy]
  rfl
 refine ⟨fun w11=> Ext (fun _=> False) w9.drew w11,Ext.refl _ _,?_⟩
 repeat (first | refine LdS.of hS0 rfl ?_ | refine LdS.of hS1 rfl ?_)
 refine ⟨Nw.of ⟨eN _ _,?_,Nw.of ?_⟩,Nw.of ⟨eN _ _,Nw.of ⟨(eN _ _).tr (eN _ _),?_⟩⟩⟩
 ·refine (c_dot (row6 (Blk.new _ _ _)) (.inr rfl)).mono (fun r w12 h12=> ?_) fun v w12 h12=> no' (eN _ _) h12.2.2 h12.1 (by rw [happ,h12.2.1]; rfl)
  refine ⟨(eN _ _).tr h12.2,Nw.of ⟨((eN _ _).tr h12.2).tr (eN _ _),?_⟩⟩
  refine (c_dot (row6 (Blk.new _ _ _)) (.inr rfl)).mono (fun r2 w13 h13=> ?_) fun v w13 h13=> no' (((eN _ _).tr h12.2).tr (eN _ _)) h13.2.2 h13.1 (by rw [happ,h13.2.1]; simp [bnone])
  exact fin _ _ _ ((((eN _ _).tr h12.2).tr (eN _ _)).tr h13.2) h12.1 h13.1
 ·refine ⟨(eN _ _).tr (eN _ _),(c_dot (row6 ((eN _ _).blk (Blk.new _ _ _) id)) (.inr rfl)).mono (fun r w12 h12=> ?_) fun v w12 h12=> no' ((eN _ _).tr (eN _ _)) h12.2.2 h12.1 (by rw [happ,h12.2.1]; rfl)⟩
  refine ⟨((eN _ _).tr (eN _ _)).tr h12.2,(c_dot (row6 (h12.2.blk (Blk.new _ _ _) id)) (.inr rfl)).mono (fun r2 w13 h13=> ?_) fun v w13 h13=> no' (((eN _ _).tr (eN _ _)).tr h12.2) h13.2.2 h13.1 (by rw [happ,h13.2.1]; simp [bnone])⟩
  exact fin _ _ _ ((((eN _ _).tr (eN _ _)).tr h12.2).tr h13.2) h12.1 h13.1
 ·refine (c_dot (row6 (Blk.new _ _ _)) (.inr rfl)).mono (fun r w12 h12=> ?_) fun v w12 h12=> no' ((eN _ _).tr (eN _ _)) h12.2.2 h12.1 (by rw [happ,h12.2.1]; rfl)
  refine ⟨((eN _ _).tr (eN _ _)).tr h12.2,(c_dot (row6 (h12.2.blk ((eN _ _).blk (Blk.new _ _ _) id) id)) (.inr rfl)).mono (fun r2 w13 h13=> ?_) fun v w13 h13=> no' (((eN _ _).tr (eN _ _)).tr h12.2) h13.2.2 h13.1 (by rw [happ,h13.2.1]; simp [bnone])⟩
  exact fin _ _ _ ((((eN _ _).tr (eN _ _)).tr h12.2).tr h13.2) h12.1 h13.1
def isRoot (n s : Int) : Prop := 0 <= s /\ s * s <= n /\ n < (s + 1) * (s + 1)
theorem isRoot_eq {n s t : Int} (hs : isRoot n s) (ht : isRoot n t) : s = t := by
 obtain ⟨h1,h2,h3⟩ := hs
 obtain ⟨g1,g2,g3⟩ := ht
 rcases Int.lt_trichotomy s t with h | h | h
 ·have := Int.mul_le_mul (show s + 1 <= t by omega) (show s + 1 <= t by omega) (by omega) (by omega)
  omega
 ·exact h
 ·have := Int.mul_le_mul (show t + 1 <= s by omega) (show t + 1 <= s by omega) (by omega) (by omega)
  omega
theorem le_div {t n : Int} (ht : 0 < t) (hn : 0 <= n) : (t <= n / t) ↔ t * t <= n := Int.le_ediv_iff_mul_le ht
theorem c_root {n : Int} (hn : 0 <= n /\ n < 4611686018427387904) (w : World) : C143 n w fun r w1=> isRoot n r /\ r < 2147483648 /\ w1 = w := by
 refine T143 _ _ _ ?_
 unfold S143
 refine ⟨fun k st w1=> w1 = w /\ k <= 32 /\ 0 <= st.1 /\ st.1 * st.1 <= n /\ ((k = 0 /\ st.2 = 0 /\ n < (st.1 + 1) * (st.1 + 1) /\ st.1 < 2147483648) \/ (∃ j : Nat,k = j + 1 /\ st.2 = 2 ^ j /\ n < (st.1 + 2 * 2 ^ j) * (st.1 + 2 * 2 ^ j) /\ st.1 + 2 * 2 ^ j <= 4294967296)),32,⟨rfl,by omega,by simp,by simp; omega,.inr ⟨31,rfl,by decide,by simp; omega,by simp⟩⟩,?_⟩
 rintro k ⟨r,b⟩ w1 ⟨rfl,hk,hr0,hrr,h⟩
 unfold S143L1
 dsimp only at hr0 hrr h ⊢
 rcases h with ⟨rfl,rfl,hlt,hb⟩ | ⟨j,rfl,rfl,hlt,hb⟩
 ·refine Br.dec (fun h=> by omega) fun _=> ⟨⟨hr0,hrr,hlt⟩,hb,rfl⟩
 ·have hp : (0 : Int) < 2 ^ j := Int.pow_pos (by omega)
  refine Br.dec (fun _=> ?_) fun h=> by omega
  have hrb : r <= 2147483647 := by
   refine Decidable.byContradiction fun h=> ?_
   have := Int.mul_le_mul (show (2147483648 : Int) <= r by omega) (show (2147483648 : Int) <= r by omega) (by omega) (by omega)
   omega
  have hpj : (2 : Int) ^ j <= 2147483648 := by
   have : (2 : Int) ^ j <= 2 ^ 31 := by exact_mod_cast Nat.pow_le_pow_right (by omega) (show j <= 31 by omega)
   simpa using this
  rw [i64_id (n := r + 2 ^ j) (by omega)]
  have hq0 : 0 <= n / (r + 2 ^ j) := Int.ediv_nonneg (by omega) (by omega)
  have hq1 : n / (r + 2 ^ j) <= n := Int.ediv_le_self _ (by omega)
  rw [tdiv_id (by omega),i64_id (n := n / (r + 2 ^ j)) (by omega)]
  have half : j = 0 /\ Int.fdiv (2 ^ j) (2 ^ 1) = 0 \/ ∃ i,j = i + 1 /\ Int.fdiv (2 ^ j) (2 ^ 1) = 2 ^ i /\ (2 : Int) ^ j = 2 * 2 ^ i := by
   cases j with
   | zero=> exact .inl ⟨rfl,by decide⟩
   | succ i=>
    refine .inr ⟨i,rfl,?_,by rw [Int.pow_succ]; omega⟩
    rw [Int.fdiv_eq_ediv_of_nonneg _ (by decide),Int.pow_succ]
    omega
  refine ⟨by omega,Lt.of (Br.dec (fun h=> ?_) fun h=> ?_)⟩
  ·have h2 := (le_div (show 0 < r + 2 ^ j by omega) hn.1).1 h
   refine ⟨j,by omega,rfl,by omega,by omega,h2,?_⟩
   rcases half with ⟨rfl,h3⟩ | ⟨i,rfl,h3,h4⟩
   ·refine .inl ⟨rfl,h3,?_,?_⟩
    ·simp only [Int.pow_zero] at hlt ⊢
     rw [show r + 1 + 1 = r + 2 * 1 by omega]; exact hlt
    ·refine Decidable.byContradiction fun h=> ?_
     have := Int.mul_le_mul (show (2147483648 : Int) <= r + 2 ^ 0 by omega) (show (2147483648 : Int) <= r + 2 ^ 0 by omega) (by omega) (by omega)
     omega
   ·refine .inr ⟨i,rfl,h3,?_,?_⟩
    ·rw [<- h4,show r + 2 ^ (i + 1) + 2 ^ (i + 1) = r + 2 * 2 ^ (i + 1) by omega]; exact hlt
    ·omega
  ·have h2 : ¬ (r + 2 ^ j) * (r + 2 ^ j) <= n := fun h2=> h ((le_div (by omega) hn.1).2 h2)
   refine ⟨j,by omega,rfl,by omega,hr0,hrr,?_⟩
   rcases half with ⟨rfl,h3⟩ | ⟨i,rfl,h3,h4⟩
   ·exact .inl ⟨rfl,h3,by simpa using Int.not_le.1 h2,by omega⟩
   ·exact .inr ⟨i,rfl,h3,by rw [<- h4]; exact Int.not_le.1 h2,by omega⟩
def flat (m : Mx) : Mx := (m.1,m.2.1,m.2.2.1,m.2.2.2.1,0,0)
def IsLen (m : Mx) (p : Int × Int) (x : Int × Int) : Prop := match applyP (flat m) p with
 | none=> x = (0,2)
 | some q=> ∃ s,isRoot (q.1 * q.1 + q.2 * q.2) s /\ x = if 1073741824 < s then (0,2) else (s,0)
theorem isLen_eq {m : Mx} {p : Int × Int} {x y : Int × Int} (hx : IsLen m p x) (hy : IsLen m p y) : x = y := by
 unfold IsLen at hx hy
 split at hx
 ·rename_i h; rw [h] at hy; rw [hx,hy]
 ·rename_i q h
  rw [h] at hy
  obtain ⟨s,h1,h2⟩ := hx
  obtain ⟨t,h3,h4⟩ := hy
  rw [h2,h4,isRoot_eq h1 h3]
theorem applyP_in {m : Mx} {p q : Int × Int} (h : applyP m p = some q) : inW q.1 = true /\ inW q.2 = true := by
 unfold applyP at h
 split at h
 ·obtain ⟨x,h1,h⟩ := Option.bind_eq_some_iff.1 h
  obtain ⟨y,h2,h⟩ := Option.bind_eq_some_iff.1 h
  cases h
  exact ⟨dotP_in h1,dotP_in h2⟩
 ·cases h
theorem sq_bd {q : Int × Int} (h1 : inW q.1 = true) (h2 : inW q.2 = true) : 0 <= q.1 * q.1 /\ q.1 * q.1 <= 1152921504606846976 /\ 0 <= q.2 * q.2 /\ q.2 * q.2 <= 1152921504606846976 := by
 have h1 := inW_spec.1 h1
 have h2 := inW_spec.1 h2
 exact ⟨by rw [<- Int.natAbs_mul_self]; omega,(mul_bd h1 h1).2,by rw [<- Int.natAbs_mul_self]; omega,(mul_bd h2 h2).2⟩
theorem c_length (m : Mx) (p : Int × Int) (w : World) : C123 m p w fun r e w1=> IsLen m p (r,e) /\ Ext (fun _=> False) w w1 := by
 refine T123 _ _ _ _ ?_
 unfold S123
 refine (Hn.start w).nw fun w3 H=> H.nw fun w4 H=> ?_
 repeat (first | refine Lt.of ?_ | refine Nn.of ?_ | refine H.ld 0 rfl rfl ?_ | refine H.ld 1 rfl rfl ?_ | refine H.ld 2 rfl rfl ?_ | refine H.ld 3 rfl rfl ?_ | refine H.ld 4 rfl rfl ?_ | refine H.ld 5 rfl rfl ?_ | (refine H.st 0 rfl (by simp) fun _ H=> ?_; simp only [List.nil_append,List.cons_append,List.set_cons_zero,List.set_cons_succ,Nat.zero_add] at H) | (refine H.st 1 rfl (by simp) fun _ H=> ?_; simp only [List.nil_append,List.cons_append,List.set_cons_zero,List.set_cons_succ,Nat.zero_add] at H) | (refine H.st 2 rfl (by simp) fun _ H=> ?_; simp only [List.nil_append,List.cons_append,List.set_cons_zero,List.set_cons_succ,Nat.zero_add] at H) | (refine H.st 3 rfl (by simp) fun _ H=> ?_; simp only [List.nil_append,List.cons_append,List.set_cons_zero,List.set_cons_succ,Nat.zero_add] at H) | (refine H.st 4 rfl (by simp) fun _ H=> ?_; simp only [List.nil_append,List.cons_append,List.set_cons_zero,List.set_cons_succ,Nat.zero_add] at H) | (refine H.st 5 rfl (by simp) fun _ H=> ?_; simp only [List.nil_append,List.cons_append,List.set_cons_zero,List.set_cons_succ,Nat.zero_add] at H))
 refine (c_apply (flat m) p _).mono ?_
 rintro q e w5 ⟨hq,he⟩
 have H := H.keep he
 refine H.nw fun w6 H=> ?_
 repeat (first | refine Lt.of ?_ | refine Nn.of ?_ | refine H.ld 0 rfl rfl ?_ | refine H.ld 1 rfl rfl ?_ | refine H.ld 2 rfl rfl ?_ | refine H.ld 3 rfl rfl ?_ | refine H.ld 4 rfl rfl ?_ | refine H.ld 5 rfl rfl ?_ | (refine H.st 0 rfl (by simp) fun _ H=> ?_; simp only [List.nil_append,List.cons_append,List.set_cons_zero,List.set_cons_succ,Nat.zero_add] at H) | (refine H.st 1 rfl (by simp) fun _ H=> ?_; simp only [List.nil_append,List.cons_append,List.set_cons_zero,List.set_cons_succ,Nat.zero_add] at H) | (refine H.st 2 rfl (by simp) fun _ H=> ?_; simp only [List.nil_append,List.cons_append,List.set_cons_zero,List.set_cons_succ,Nat.zero_add] at H) | (refine H.st 3 rfl (by simp) fun _ H=> ?_; simp only [List.nil_append,List.cons_append,List.set_cons_zero,List.set_cons_succ,Nat.zero_add] at H) | (refine H.st 4 rfl (by simp) fun _ H=> ?_; simp only [List.nil_append,List.cons_append,List.set_cons_zero,List.set_cons_succ,Nat.zero_add] at H) | (refine H.st 5 rfl (by simp) fun _ H=> ?_; simp only [List.nil_append,List.cons_append,List.set_cons_zero,List.set_cons_succ,Nat.zero_add] at H))
 unfold IsLen
 cases ha : applyP (flat m) p with
 | none=>
  rw [ha] at hq
  have hq2 := Prod.mk.inj hq
  obtain ⟨rfl,rfl⟩ := hq2
  exact ⟨rfl,H.ext⟩
 | some q'=>
  rw [ha] at hq
  have hq2 := Prod.mk.inj hq
  obtain ⟨rfl,rfl⟩ := hq2
  obtain ⟨i1,i2⟩ := applyP_in ha
  have hb := sq_bd i1 i2
  refine Br.ne (fun h=> absurd rfl h) fun _=> ?_
  repeat (first | refine Lt.of ?_ | refine Nn.of ?_ | refine H.ld 0 rfl rfl ?_ | refine H.ld 1 rfl rfl ?_ | refine H.ld 2 rfl rfl ?_ | refine H.ld 3 rfl rfl ?_ | refine H.ld 4 rfl rfl ?_ | refine H.ld 5 rfl rfl ?_ | (refine H.st 0 rfl (by simp) fun _ H=> ?_; simp only [List.nil_append,List.cons_append,List.set_cons_zero,List.set_cons_succ,Nat.zero_add] at H) | (refine H.st 1 rfl (by simp) fun _ H=> ?_; simp only [List.nil_append,List.cons_append,List.set_cons_zero,List.set_cons_succ,Nat.zero_add] at H) | (refine H.st 2 rfl (by simp) fun _ H=> ?_; simp only [List.nil_append,List.cons_append,List.set_cons_zero,List.set_cons_succ,Nat.zero_add] at H) | (refine H.st 3 rfl (by simp) fun _ H=> ?_; simp only [List.nil_append,List.cons_append,List.set_cons_zero,List.set_cons_succ,Nat.zero_add] at H) | (refine H.st 4 rfl (by simp) fun _ H=> ?_; simp only [List.nil_append,List.cons_append,List.set_cons_zero,List.set_cons_succ,Nat.zero_add] at H) | (refine H.st 5 rfl (by simp) fun _ H=> ?_; simp only [List.nil_append,List.cons_append,List.set_cons_zero,List.set_cons_succ,Nat.zero_add] at H))
  rw [i64_id (n := q.1 * q.1) (by omega),i64_id (n := q.2 * q.2) (by omega),i64_id (n := q.1 * q.1 + q.2 * q.2) (by omega)]
  refine (c_root (by omega) _).mono ?_
  rintro r _ ⟨hr,hlt,rfl⟩
  exact Br.dec (fun h=> ⟨⟨r,hr,by rw [if_pos h]⟩,H.ext⟩) fun h=> ⟨⟨r,hr,by rw [if_neg h]⟩,H.ext⟩
def one : Mx := (10000,0,0,10000,0,0)
def moveM (x y : Int) : Mx := (10000,0,0,10000,x,y)
theorem c_one (w : World) : C24 w fun r w1=> r = one /\ Ext (fun _=> False) w w1 := by
 refine T24 _ _ ?_
 unfold S24
 refine (Hn.start w).nw fun w3 H=> ?_
 repeat (first | refine Lt.of ?_ | refine Nn.of ?_ | refine H.ld 0 rfl rfl ?_ | refine H.ld 1 rfl rfl ?_ | refine H.ld 2 rfl rfl ?_ | refine H.ld 3 rfl rfl ?_ | refine H.ld 4 rfl rfl ?_ | refine H.ld 5 rfl rfl ?_ | (refine H.st 0 rfl (by simp) fun _ H=> ?_; simp only [List.nil_append,List.cons_append,List.set_cons_zero,List.set_cons_succ,Nat.zero_add] at H) | (refine H.st 1 rfl (by simp) fun _ H=> ?_; simp only [List.nil_append,List.cons_append,List.set_cons_zero,List.set_cons_succ,Nat.zero_add] at H) | (refine H.st 2 rfl (by simp) fun _ H=> ?_; simp only [List.nil_append,List.cons_append,List.set_cons_zero,List.set_cons_succ,Nat.zero_add] at H) | (refine H.st 3 rfl (by simp) fun _ H=> ?_; simp only [List.nil_append,List.cons_append,List.set_cons_zero,List.set_cons_succ,Nat.zero_add] at H) | (refine H.st 4 rfl (by simp) fun _ H=> ?_; simp only [List.nil_append,List.cons_append,List.set_cons_zero,List.set_cons_succ,Nat.zero_add] at H) | (refine H.st 5 rfl (by simp) fun _ H=> ?_; simp only [List.nil_append,List.cons_append,List.set_cons_zero,List.set_cons_succ,Nat.zero_add] at H))
 exact ⟨rfl,H.ext⟩
theorem c_move (x y : Int) (w : World) : C116 x y w fun r w1=> r = moveM x y /\ Ext (fun _=> False) w w1 := by
 refine T116 _ _ _ _ ?_
 unfold S116
 refine (Hn.start w).nw fun w3 H=> ?_
 refine (c_one _).mono ?_
 rintro r w4 ⟨rfl,he⟩
 have H := H.keep he
 refine H.nw fun w5 H=> ?_
 repeat (first | refine Lt.of ?_ | refine Nn.of ?_ | refine H.ld 0 rfl rfl ?_ | refine H.ld 1 rfl rfl ?_ | refine H.ld 2 rfl rfl ?_ | refine H.ld 3 rfl rfl ?_ | refine H.ld 4 rfl rfl ?_ | refine H.ld 5 rfl rfl ?_ | (refine H.st 0 rfl (by simp) fun _ H=> ?_; simp only [List.nil_append,List.cons_append,List.set_cons_zero,List.set_cons_succ,Nat.zero_add] at H) | (refine H.st 1 rfl (by simp) fun _ H=> ?_; simp only [List.nil_append,List.cons_append,List.set_cons_zero,List.set_cons_succ,Nat.zero_add] at H) | (refine H.st 2 rfl (by simp) fun _ H=> ?_; simp only [List.nil_append,List.cons_append,List.set_cons_zero,List.set_cons_succ,Nat.zero_add] at H) | (refine H.st 3 rfl (by simp) fun _ H=> ?_; simp only [List.nil_append,List.cons_append,List.set_cons_zero,List.set_cons_succ,Nat.zero_add] at H) | (refine H.st 4 rfl (by simp) fun _ H=> ?_; simp only [List.nil_append,List.cons_append,List.set_cons_zero,List.set_cons_succ,Nat.zero_add] at H) | (refine H.st 5 rfl (by simp) fun _ H=> ?_; simp only [List.nil_append,List.cons_append,List.set_cons_zero,List.set_cons_succ,Nat.zero_add] at H))
 exact ⟨rfl,H.ext⟩
def rrow (b : Int × Int × Int × Int) : List Value := [.int .i64 b.1,.int .i64 b.2.1,.int .i64 b.2.2.1,.int .i64 b.2.2.2]
@[simp] theorem rrow_len (b : Int × Int × Int × Int) : (rrow b).length = 4 := rfl
@[simp] theorem mrow_len (m : Mx) : (mrow m).length = 6 := rfl
end Mat
end Go.Proofs.YtcblpehnkogfdaaGreatDoor

/- Sums of numbers: fix.Sum and the reference's. Conditions: sizes. -/
namespace Go.Proofs.YtcblpehnkogfdaaGreatDoor
namespace Pat
open Sh Mat Fix
set_option maxRecDepth 4000
set_option maxHeartbeats 2000000
def ps (l : List Int) : Nat -> Int
 | 0=> 0
 | k + 1=> ps l k + l.getD k 0
def sumF (l : List Int) : Int × Int := if l.all inW = true /\ inW (ps l l.length) = true then (ps l l.length,0) else (0,2)
theorem sumF_yes {l : List Int} (ha : allW l) (hn : inW (ps l l.length) = true) : sumF l = (ps l l.length,0) := if_pos ⟨(all_iff l).2 ha,hn⟩
theorem sumF_no {l : List Int} (h : ¬ allW l \/ inW (ps l l.length) = false) : sumF l = (0,2) := if_neg fun h2=> by
 rcases h with h | h
 ·exact h ((all_iff l).1 h2.1)
 ·rw [h] at h2
  cases h2.2
theorem ps_bd {l : List Int} : ∀ (k : Nat),k <= l.length -> (∀ i,i < k -> inW (l.getD i 0) = true) -> -(1073741824 * (k : Int)) <= ps l k /\ ps l k <= 1073741824 * (k : Int)
 | 0,_,_=> by simp [ps]
 | k + 1,hk,h=> by
  have h1 := ps_bd k (by omega) fun i hi=> h i (by omega)
  have h2 := inW_spec.1 (h k (by omega))
  simp only [ps]
  omega
section
variable {w : World} {s : Slc} {l : List Int}
attribute [local irreducible] Ld St Nw Nn Lt LdS
theorem c_sum (h : IRow w s l) (hl : l.length <= 1000000) : C63 s w fun r e w1=> (r,e) = sumF l /\ Ext (fun _=> False) w w1 := by
 refine T63 _ _ _ ?_
 unfold S63
 have hn := h.1
 refine (Hx.start w (fun _=> False)).nw fun w2 H=> ?_
 have hs := H.size
 refine H.nw fun w3 H=> ?_
 have caught : ∀ (cs1 cs2 : Int) (w4 : World),Hx w (fun _=> False) w4 [(w.heap.size,#[.int .i64 cs1],2),(w2.heap.size,#[.int .i64 cs2],43)] -> (sumF l = (0,2)) ->
   S63P w w2 (fun r e w1=> (r,e) = sumF l /\ Ext (fun _=> False) w w1) (refused 2) w4 := fun cs1 cs2 w4 H hd=> by
  unfold S63P
  refine T101_T170 _ _ 2 _ _ ?_
  unfold S101_T170
  refine Nn.of (H.st 0 rfl (by simp) (.inr (Nat.le_refl _)) fun w5 H=> Nn.of (H.st 1 rfl (by simp) (.inr hs) fun w6 H=> H.ld 0 rfl rfl (H.ld 1 rfl rfl ⟨hd.symm,H.ext⟩)))
 have done : ∀ (r e : Int) (w4 : World),Hx w (fun _=> False) w4 [(w.heap.size,#[.int .i64 r],2),(w2.heap.size,#[.int .i64 e],43)] -> sumF l = (r,e) ->
   CD101 (some (⟨w.heap.size,0,none⟩ : Addr)) (some (⟨w2.heap.size,0,none⟩ : Addr)) none w4 fun vw15=>
    Ld vw15 (⟨w.heap.size,0,none⟩ : Addr) (Value.int .i64) fun (x16 : Int)=>
    Ld vw15 (⟨w2.heap.size,0,none⟩ : Addr) (Value.int .i64) fun (x17 : Int)=>
    (x16,x17) = sumF l /\ Ext (fun _=> False) w vw15 := fun r e w4 H hd=> by
  refine T101_nil _ _ _ _ ?_
  unfold S101_nil
  exact H.ld 0 rfl rfl (H.ld 1 rfl rfl ⟨hd.symm,H.ext⟩)
 refine (c_bounded (h.keep H.ext) (by omega)).mono (fun w4 h4=> ?_) fun v w4 h4=> ?_
 case refine_2=>
  obtain ⟨rfl,rfl,ha⟩ := h4
  exact caught _ _ _ H (sumF_no (.inl ha))
 obtain ⟨rfl,ha⟩ := h4
 refine ⟨fun n st w5=> ∃ k : Nat,st = (k : Int) /\ k <= l.length /\ n = l.length - k /\ Hx w (fun _=> False) w5 [(w.heap.size,#[.int .i64 (ps l k)],2),(w2.heap.size,#[.int .i64 0],43)],l.length,⟨0,rfl,by omega,rfl,H⟩,?_⟩
 rintro n st w5 ⟨k,rfl,hk,rfl,H⟩
 unfold S63L1
 rw [hn]
 have hbd := ps_bd k hk fun i hi=> ha i (by omega)
 refine Br.dec (fun e3=> ?_) fun e3=> ?_
 ·obtain ⟨a,haa,hc1⟩ := (h.keep H.ext).2 k (by omega)
  rw [haa,Int.toNat_natCast,Nat.mul_one]
  have h1 := inW_spec.1 (ha k (by omega))
  refine ⟨by omega,by omega,Nn.of (Ld.mk hc1 (H.ld 0 rfl rfl ?_))⟩
  rw [i64_id (n := ps l k + l.getD k 0) (by omega)]
  exact H.st 0 rfl (by simp) (.inr (Nat.le_refl _)) fun w6 H=> ⟨l.length - (k + 1),by omega,k + 1,by rw [i64_id (by omega)]; rfl,by omega,rfl,H⟩
 ·have hk2 : k = l.length := by omega
  refine H.ld 0 rfl rfl ?_
  refine (c_answer _ _).mono (fun r w7 h7=> ?_) fun v w7 h7=> ?_
  ·obtain ⟨rfl,hw,he⟩ := h7
   have H := H.keep he
   exact H.st 0 rfl (by simp) (.inr (Nat.le_refl _)) fun w8 H=> H.st 1 rfl (by simp) (.inr hs) fun w9 H=> done _ 0 _ H (by rw [hk2] at hw ⊢; exact sumF_yes ha hw)
  ·obtain ⟨rfl,hw,he⟩ := h7
   exact caught _ _ _ (H.keep he) (sumF_no (.inr (by rw [<- hk2]; exact hw)))
theorem r_sum (h : IRow w s l) (hl : l.length <= 1000000) : C70 s w fun r e w1=> (r,e) = sumF l /\ w1 = w := by
 refine T70 _ _ _ ?_
 unfold S70
 have hn := h.1
 refine ⟨fun n st w5=> ∃ k : Nat,st = (ps l k,(k : Int)) /\ k <= l.length /\ n = l.length - k /\ w5 = w /\ ∀ i,i < k -> inW (l.getD i 0) = true,l.length,⟨0,rfl,by omega,rfl,rfl,fun i hi=> by omega⟩,?_⟩
 rintro n st w5 ⟨k,rfl,hk,rfl,rfl,hall⟩
 unfold S70L1
 dsimp only
 rw [hn]
 have hbd := ps_bd k hk hall
 refine Br.dec (fun e3=> ?_) fun e3=> ?_
 ·obtain ⟨a,haa,hc1⟩ := h.2 k (by omega)
  rw [haa,Int.toNat_natCast,Nat.mul_one]
  refine ⟨by omega,by omega,Nn.of (Ld.mk hc1 ((Fix.r_within _ _).mono ?_))⟩
  rintro r w6 ⟨rfl,rfl⟩
  cases hw : inW (l.getD k 0) with
  | false=>
   refine Br_of (fun _=> ⟨?_,rfl⟩) fun h=> by cases h
   rw [sumF_no (.inl fun ha=> by rw [ha k (by omega)] at hw; cases hw)]
  | true=>
   refine Br_of (fun h=> by cases h) fun _=> ⟨by omega,by omega,Nn.of (Ld.mk hc1 ?_)⟩
   have h1 := inW_spec.1 hw
   refine ⟨l.length - (k + 1),by omega,k + 1,?_,by omega,rfl,rfl,fun i hi=> ?_⟩
   ·rw [i64_id (by omega),i64_id (by omega)]
    rfl
   ·by_cases hik : i = k
    ·rw [hik]
     exact hw
    ·exact hall i (by omega)
 ·have hk2 : k = l.length := by omega
  refine (r_told _ _).mono ?_
  rintro r e w6 ⟨hr,rfl⟩
  refine ⟨?_,rfl⟩
  rw [hr,hk2]
  have ha : allW l := fun i hi=> hall i (by omega)
  cases hw : inW (ps l l.length) with
  | false=> rw [sumF_no (.inr hw),if_neg (by decide)]
  | true=> rw [sumF_yes ha hw,if_pos rfl]
end
end Pat
end Go.Proofs.YtcblpehnkogfdaaGreatDoor

/- Strings and their characters, as 16-bit units and back. Plain; no condition. -/
namespace Go.Proofs.YtcblpehnkogfdaaGreatDoor
namespace Ut
open Go.Lib
def runesF : Nat -> List UInt8 -> List Nat
 | 0,_=> []
 | n + 1,l=> if l = [] then [] else (decodeL l).1 :: runesF n (l.drop (decodeL l).2)
def runes (l : List UInt8) : List Nat := runesF l.length l
theorem runesF_nil : ∀ n,runesF n [] = []
 | 0=> rfl
 | _ + 1=> by simp [runesF]
theorem runesF_fuel : ∀ (n m : Nat) (l : List UInt8),l.length <= n -> l.length <= m -> runesF n l = runesF m l
 | 0,m,l,hn,_=> by
  have : l = [] := List.eq_nil_of_length_eq_zero (by omega)
  subst this
  rw [runesF_nil,runesF_nil]
 | n + 1,0,l,_,hm=> by
  have : l = [] := List.eq_nil_of_length_eq_zero (by omega)
  subst this
  rw [runesF_nil,runesF_nil]
 | n + 1,m + 1,l,hn,hm=> by
  unfold runesF
  split
  ·rfl
  ·have h1 := decodeL_width l
   rw [runesF_fuel n m _ (by rw [List.length_drop]; omega) (by rw [List.length_drop]; omega)]
theorem runes_nil : runes [] = [] := rfl
theorem runes_step {l : List UInt8} (hne : l ≠ []) : runes l = (decodeL l).1 :: runes (l.drop (decodeL l).2) := by
 have h1 := decodeL_width l
 unfold runes
 have hl : 0 < l.length := List.length_pos_iff.2 hne
 obtain ⟨n,hn⟩ : ∃ n,l.length = n + 1 := ⟨l.length - 1,by omega⟩
 conv=> lhs; rw [hn]
 show (if l = [] then [] else (decodeL l).1 :: runesF n (l.drop (decodeL l).2)) = _
 rw [if_neg hne,runesF_fuel n _ _ (by rw [List.length_drop]; omega) (Nat.le_refl _)]
theorem rune_scalar (l : List UInt8) : (decodeL l).1 < 55296 \/ (57344 <= (decodeL l).1 /\ (decodeL l).1 <= 1114111) := by
 have k0 := (l.getD 0 0).toNat_lt
 have k1 := (l.getD 1 0).toNat_lt
 rw [decodeL_N]
 generalize (l.getD 0 0).toNat = b0 at *
 generalize (l.getD 1 0).toNat = b1 at *
 generalize (l.getD 2 0).toNat = b2
 generalize (l.getD 3 0).toNat = b3
 unfold decodeN
 repeat' split
 all_goals dsimp only
 all_goals omega
theorem runes_ind {p : List UInt8 -> Prop} (h0 : p []) (h1 : ∀ l,l ≠ [] -> p (l.drop (decodeL l).2) -> p l) : ∀ l,p l := by
 have key : ∀ (n : Nat) (l : List UInt8),l.length <= n -> p l := by
  intro n
  induction n with
  | zero=>
   intro l hl
   have : l = [] := List.eq_nil_of_length_eq_zero (by omega)
   subst this
   exact h0
  | succ n ih=>
   intro l hl
   by_cases hne : l = []
   ·subst hne
    exact h0
   ·have := decodeL_width l
    exact h1 l hne (ih _ (by rw [List.length_drop]; omega))
 exact fun l=> key l.length l (Nat.le_refl _)
theorem runes_scalar : ∀ l : List UInt8,∀ c ∈ runes l,c < 55296 \/ (57344 <= c /\ c <= 1114111) :=
 runes_ind (fun c hc=> by cases hc) fun l hne ih c hc=> by
  rw [runes_step hne] at hc
  rcases List.mem_cons.1 hc with rfl | hc
  ·exact rune_scalar l
  ·exact ih c hc
def u16 (c : Nat) : List Nat := if 65535 < c then [55296 + (c - 65536) / 1024,56320 + (c - 65536) % 1024] else [c]
def unitsL (l : List UInt8) : List Nat := (runes l).flatMap u16
def backF : Nat -> List Nat -> Option (List Nat)
 | 0,_=> some []
 | _ + 1,[]=> some []
 | n + 1,u :: r=> if 56320 <= u /\ u <= 57343 then none else if 55296 <= u /\ u <= 56319 then (match r with
   | []=> none
   | v :: q=> if v < 56320 \/ 57343 < v then none else (backF n q).map fun t=> (65536 + 1024 * (u - 55296) + (v - 56320)) :: t)
  else (backF n r).map (u :: ·)
theorem enc_runes : ∀ l : List UInt8,((runes l).flatMap fun (c : Nat)=> encodeRune (c : Int)) = l ↔ validD l = true :=
 runes_ind ⟨fun _=> rfl,fun _=> rfl⟩ fun l hne ih=> by
  rw [validD_step l hne,runes_step hne,List.flatMap_cons]
  by_cases hb : (decodeL l).1 = 65533 /\ (decodeL l).2 = 1
  ·rw [if_pos hb]
   refine ⟨fun h=> ?_,fun h=> by cases h⟩
   rw [hb.1] at h
   have e3 : l = 239 :: 191 :: 189 :: (l.drop 3) := by
    have h2 : l = [239,191,189] ++ ((runes (l.drop (decodeL l).2)).flatMap fun (c : Nat)=> encodeRune (c : Int)) := by
     conv=> lhs; rw [<- h]
     rfl
    generalize ((runes (l.drop (decodeL l).2)).flatMap fun (c : Nat)=> encodeRune (c : Int)) = z at h2
    subst h2
    rfl
   have : decodeL l = (65533,3) := by
    rw [decodeL_N,e3]
    generalize l.drop 3 = z
    have hz : ((239 :: 191 :: 189 :: z : List UInt8).length) = z.length + 3 := rfl
    rw [hz]
    have g0 : ((239 :: 191 :: 189 :: z : List UInt8).getD 0 0).toNat = 239 := rfl
    have g1 : ((239 :: 191 :: 189 :: z : List UInt8).getD 1 0).toNat = 191 := rfl
    have g2 : ((239 :: 191 :: 189 :: z : List UInt8).getD 2 0).toNat = 189 := rfl
    rw [g0,g1,g2]
    unfold decodeN
    rw [if_neg (by decide),if_neg (by intro h; exact absurd h.1 (by decide)),if_pos ⟨by decide,⟨by omega,by decide⟩,by omega,by decide⟩,if_pos (by decide)]
   rw [this] at hb
   exact absurd hb.2 (by decide)
  ·rw [if_neg hb,encode_decode l hne hb,<- ih]
   refine ⟨fun h=> ?_,fun h=> by rw [h,List.take_append_drop]⟩
   have h2 : l.take (decodeL l).2 ++ ((runes (l.drop (decodeL l).2)).flatMap fun (c : Nat)=> encodeRune (c : Int)) = l.take (decodeL l).2 ++ l.drop (decodeL l).2 := by rw [h,List.take_append_drop]
   exact List.append_cancel_left h2
end Ut
end Go.Proofs.YtcblpehnkogfdaaGreatDoor

/- Fonts: their numbers, their names, the text of a code. Plain; no condition. -/
namespace Go.Proofs.YtcblpehnkogfdaaGreatDoor
namespace Fo
open Go.Lib
abbrev By := List UInt8
def bl (s : ByteArray) : By := s.data.toList
structure Font where
 name : ByteArray
 wide : Bool
 first : Int
 widths : List Int
 missing : Int
 names : List ByteArray
 maps : List (Int × ByteArray)
def bnd (n m : Int) : Bool := decide (0 <= n) && decide (n <= m)
def named (s : ByteArray) (k : Nat) : Bool := decide (k <= s.size) && decide (s.size <= 127) && !(bl s).contains 0
def many (f : Font) : Int := if f.wide then 65536 else 256
def mayF (f : Font) : Bool :=
 named f.name 1 && decide (0 <= f.first) && decide (f.widths.length <= 4096) && decide (f.first <= many f - (f.widths.length : Int)) && bnd f.missing 100000 &&
  f.widths.all (fun n=> bnd n 100000) && (decide (f.names = []) || (!f.wide && decide (f.names.length = 256))) && f.names.all (fun s=> named s 0)
def ulen (s : ByteArray) : Nat := 2 * (Ut.unitsL (bl s)).length
def prevE : Option Int -> Int -> Int
 | none,_=> 0
 | some p,c=> if c = p then 9 else if c < p then 1 else 0
def rowE (most : Int) (prev : Option Int) (x : Int × ByteArray) : Int :=
 if x.1 < 0 \/ most < x.1 then 2 else if validD (bl x.2) = false then 3 else if 512 < ulen x.2 then 5 else prevE prev x.1
def rowsE (most : Int) : Option Int -> List (Int × ByteArray) -> Int
 | _,[]=> 0
 | prev,x :: r=> if rowE most prev x ≠ 0 then rowE most prev x else rowsE most (some x.1) r
def mapsE (l : List (Int × ByteArray)) (wide : Bool) : Int := if 4096 < l.length then 6 else rowsE (if wide then 65535 else 255) none l
def chkF (f : Font) : Int := if mayF f = false then 1 else mapsE f.maps f.wide
def widthF (f : Font) (code : Int) : Int := if code < f.first \/ (f.widths.length : Int) <= code - f.first then f.missing else f.widths.getD (code - f.first).toNat 0
def pairs : By -> List Int
 | a :: b :: r=> (256 * (a.toNat : Int) + (b.toNat : Int)) :: pairs r
 | _=> []
def codesF (wide : Bool) (s : ByteArray) : List Int × Int := if wide = false then ((bl s).map (fun b=> (b.toNat : Int)),0) else if s.size % 2 ≠ 0 then ([],3) else (pairs (bl s),0)
def setAll : List By -> Nat -> List By -> List By
 | l,_,[]=> l
 | l,i,n :: r=> setAll (l.set i n) (i + 1) r
def letters : Nat -> List By -> List By
 | 0,l=> l
 | n + 1,l=> ((letters n l).set (65 + n) [UInt8.ofNat (65 + n)]).set (97 + n) [UInt8.ofNat (97 + n)]
def signs0 : By := [115,112,97,99,101,32,101,120,99,108,97,109,32,113,117,111,116,101,100,98,108,32,110,117,109,98,101,114,115,105,103,110,32,100,111,108,108,97,114,32,112,101,114,99,101,110,116,32,97,109,112,101,114,115,97,110,100,32,113,117,111,116,101,115,105,110,103,108,101,32,112,97,114,101,110,108,101,102,116,32,112,97,114,101,110,114,105,103,104,116,32,97,115,116,101,114,105,115,107,32,112,108,117,115,32,99,111,109,109,97,32,104,121,112,104,101,110,32,112,101,114,105,111,100,32,115,108,97,115,104,32,122,101,114,111,32,111,110,101,32,116,119,111,32,116,104,114,101,101,32,102,111,117,114,32,102,105,118,101,32,115,105,120,32,115,101,118,101,110,32,101,105,103,104,116,32,110,105,110,101,32,99,111,108,111,110,32,115,101,109,105,99,111,108,111,110,32,108,101,115,115,32,101,113,117,97,108,32,103,114,101,97,116,101,114,32,113,117,101,115,116,105,111,110,32,97,116]
def signs1 : By := [98,114,97,99,107,101,116,108,101,102,116,32,98,97,99,107,115,108,97,115,104,32,98,114,97,99,107,101,116,114,105,103,104,116,32,97,115,99,105,105,99,105,114,99,117,109,32,117,110,100,101,114,115,99,111,114,101,32,103,114,97,118,101]
def signs2 : By := [98,114,97,99,101,108,101,102,116,32,98,97,114,32,98,114,97,99,101,114,105,103,104,116,32,97,115,99,105,105,116,105,108,100,101]
def usualB : List By := setAll (setAll (letters 26 (setAll (List.replicate 256 []) 32 (fields signs0))) 91 (fields signs1)) 123 (fields signs2)
def hexU (b : UInt8) : Option Nat := if 48 <= b.toNat /\ b.toNat <= 57 then some (b.toNat - 48) else if 65 <= b.toNat /\ b.toNat <= 70 then some (b.toNat - 55) else none
def hexs : By -> Nat -> Option Nat
 | [],n=> some n
 | b :: r,n=> match hexU b with
  | some d=> hexs r (16 * n + d)
  | none=> none
def uniF (n : By) : By := if n.take 3 = [117,110,105] /\ n.length = 7 then (match hexs (n.drop 3) 0 with
  | some k=> if k = 0 \/ (55296 <= k /\ k <= 57343) then [] else encodeRune (k : Int)
  | none=> []) else []
def signF (n : By) : By := if n = [] then [] else match usualB.findIdx? (fun m=> decide (m = n)) with
 | some i=> [UInt8.ofNat i]
 | none=> uniF n
def sayF (f : Font) (code : Int) : By := match f.maps.find? (fun x=> decide (x.1 = code)) with
 | some x=> bl x.2
 | none=> if f.wide = true \/ code < 0 \/ ((if f.names = [] then usualB else f.names.map bl).length : Int) <= code then [] else signF ((if f.names = [] then usualB else f.names.map bl).getD code.toNat [])
theorem setAll_len : ∀ (r : List By) (l : List By) (i : Nat),(setAll l i r).length = l.length
 | [],l,i=> rfl
 | n :: r,l,i=> by
  unfold setAll
  rw [setAll_len r,List.length_set]
theorem letters_len : ∀ (n : Nat) (l : List By),(letters n l).length = l.length
 | 0,l=> rfl
 | n + 1,l=> by
  unfold letters
  rw [List.length_set,List.length_set,letters_len n l]
theorem usualB_len : usualB.length = 256 := by
 unfold usualB
 rw [setAll_len,setAll_len,letters_len,setAll_len,List.length_replicate]
end Fo
end Go.Proofs.YtcblpehnkogfdaaGreatDoor
