/- The formulas of 31 functions of the program, written by program (gen.py); the kernel checks each. No condition. -/
import Derived.Test.YtcblpehnkogfdaaGreatDoorQYQDoes2
import Derived.Test.YtcblpehnkogfdaaGreatDoorQYQDoes3
import Derived.Test.YtcblpehnkogfdaaGreatDoorQYQDoes4
import Derived.Test.YtcblpehnkogfdaaGreatDoorQYQDoes5
import Derived.Test.YtcblpehnkogfdaaGreatDoorQYQDoes6
import Derived.Test.YtcblpehnkogfdaaGreatDoorQYQDoes7
import Derived.Test.YtcblpehnkogfdaaGreatDoorQYQDoes8
set_option linter.unusedVariables false
set_option linter.unusedSimpArgs false
namespace Go.Proofs.YtcblpehnkogfdaaGreatDoor
set_option maxRecDepth 100000
open Sh
set_option maxRecDepth 100000
def C8 (w : World) (R : (TyA38) -> World -> Prop) : Prop :=
 Calls Tryz.prog 8 #[] w fun e w'=> ∃ r0 : TyA38,e = .returned (.agg (Sig.cells LiA38 r0).toArray) /\ R r0 w'
theorem C8.mono {w : World} {R R' : (TyA38) -> World -> Prop} (h : C8 w R) (hr : ∀ r0 w',R r0 w' -> R' r0 w') : C8 w R' :=
 Calls.mono h fun _ _ ⟨r0,he,hR⟩=> ⟨r0,he,hr _ _ hR⟩
def C66 (s1 : ByteArray) (least2 : Int) (w : World) (R : Bool -> World -> Prop) : Prop :=
 Calls Tryz.prog 66 #[.string s1,.int .i64 least2] w fun e w'=> ∃ r0 : Bool,e = .returned (.bool r0) /\ R r0 w'
theorem C66.mono {s1 : ByteArray} {least2 : Int} {w : World} {R R' : Bool -> World -> Prop} (h : C66 s1 least2 w R) (hr : ∀ r0 w',R r0 w' -> R' r0 w') : C66 s1 least2 w R' :=
 Calls.mono h fun _ _ ⟨r0,he,hR⟩=> ⟨r0,he,hr _ _ hR⟩
def C67 (n1 : Int) (w : World) (R : Bool -> World -> Prop) : Prop :=
 Calls Tryz.prog 67 #[.int .i64 n1] w fun e w'=> ∃ r0 : Bool,e = .returned (.bool r0) /\ R r0 w'
theorem C67.mono {n1 : Int} {w : World} {R R' : Bool -> World -> Prop} (h : C67 n1 w R) (hr : ∀ r0 w',R r0 w' -> R' r0 w') : C67 n1 w R' :=
 Calls.mono h fun _ _ ⟨r0,he,hR⟩=> ⟨r0,he,hr _ _ hR⟩
def C106 (s1 : ByteArray) (w : World) (R : ByteArray -> World -> Prop) : Prop :=
 Calls Tryz.prog 106 #[.string s1] w fun e w'=> ∃ r0 : ByteArray,e = .returned (.string r0) /\ R r0 w'
theorem C106.mono {s1 : ByteArray} {w : World} {R R' : ByteArray -> World -> Prop} (h : C106 s1 w R) (hr : ∀ r0 w',R r0 w' -> R' r0 w') : C106 s1 w R' :=
 Calls.mono h fun _ _ ⟨r0,he,hR⟩=> ⟨r0,he,hr _ _ hR⟩
def C145 (s1 : ByteArray) (vat2 : Int) (w : World) (R : Int -> World -> Prop) : Prop :=
 Calls Tryz.prog 145 #[.string s1,.int .i64 vat2] w fun e w'=> ∃ r0 : Int,e = .returned (.int .i64 r0) /\ R r0 w'
theorem C145.mono {s1 : ByteArray} {vat2 : Int} {w : World} {R R' : Int -> World -> Prop} (h : C145 s1 vat2 w R) (hr : ∀ r0 w',R r0 w' -> R' r0 w') : C145 s1 vat2 w R' :=
 Calls.mono h fun _ _ ⟨r0,he,hR⟩=> ⟨r0,he,hr _ _ hR⟩
def C127 (s1 : ByteArray) (w : World) (R : ByteArray -> Int -> World -> Prop) : Prop :=
 Calls Tryz.prog 127 #[.string s1] w fun e w'=> ∃ r0 : ByteArray,∃ r1 : Int,e = .returned (.tuple #[.string r0,.int .i64 r1]) /\ R r0 r1 w'
theorem C127.mono {s1 : ByteArray} {w : World} {R R' : ByteArray -> Int -> World -> Prop} (h : C127 s1 w R) (hr : ∀ r0 r1 w',R r0 r1 w' -> R' r0 r1 w') : C127 s1 w R' :=
 Calls.mono h fun _ _ ⟨r0,r1,he,hR⟩=> ⟨r0,r1,he,hr _ _ _ hR⟩
def C105 (s1 : ByteArray) (w : World) (R : Bool -> World -> Prop) : Prop :=
 Calls Tryz.prog 105 #[.string s1] w fun e w'=> ∃ r0 : Bool,e = .returned (.bool r0) /\ R r0 w'
theorem C105.mono {s1 : ByteArray} {w : World} {R R' : Bool -> World -> Prop} (h : C105 s1 w R) (hr : ∀ r0 w',R r0 w' -> R' r0 w') : C105 s1 w R' :=
 Calls.mono h fun _ _ ⟨r0,he,hR⟩=> ⟨r0,he,hr _ _ hR⟩
def C68 (l1 : Slc) (wide2 : Bool) (w : World) (R : Int -> World -> Prop) : Prop :=
 Calls Tryz.prog 68 #[Slc.v l1,.bool wide2] w fun e w'=> ∃ r0 : Int,e = .returned (.int .i64 r0) /\ R r0 w'
theorem C68.mono {l1 : Slc} {wide2 : Bool} {w : World} {R R' : Int -> World -> Prop} (h : C68 l1 wide2 w R) (hr : ∀ r0 w',R r0 w' -> R' r0 w') : C68 l1 wide2 w R' :=
 Calls.mono h fun _ _ ⟨r0,he,hR⟩=> ⟨r0,he,hr _ _ hR⟩
def C36 (f1 : TyA34) (w : World) (R : Int -> World -> Prop) : Prop :=
 Calls Tryz.prog 36 #[.agg (Sig.cells LiA34 f1).toArray] w fun e w'=> ∃ r0 : Int,e = .returned (.int .i64 r0) /\ R r0 w'
theorem C36.mono {f1 : TyA34} {w : World} {R R' : Int -> World -> Prop} (h : C36 f1 w R) (hr : ∀ r0 w',R r0 w' -> R' r0 w') : C36 f1 w R' :=
 Calls.mono h fun _ _ ⟨r0,he,hR⟩=> ⟨r0,he,hr _ _ hR⟩
def C108 (f1 : TyA34) (code2 : Int) (w : World) (R : Int -> World -> Prop) : Prop :=
 Calls Tryz.prog 108 #[.agg (Sig.cells LiA34 f1).toArray,.int .i64 code2] w fun e w'=> ∃ r0 : Int,e = .returned (.int .i64 r0) /\ R r0 w'
theorem C108.mono {f1 : TyA34} {code2 : Int} {w : World} {R R' : Int -> World -> Prop} (h : C108 f1 code2 w R) (hr : ∀ r0 w',R r0 w' -> R' r0 w') : C108 f1 code2 w R' :=
 Calls.mono h fun _ _ ⟨r0,he,hR⟩=> ⟨r0,he,hr _ _ hR⟩
def C69 (g1 : TyA30) (f2 : TyA34) (code3 : Int) (w : World) (R : Int -> Int -> World -> Prop) : Prop :=
 Calls Tryz.prog 69 #[.agg (Sig.cells LiA30 g1).toArray,.agg (Sig.cells LiA34 f2).toArray,.int .i64 code3] w fun e w'=> ∃ r0 : Int,∃ r1 : Int,e = .returned (.tuple #[.int .i64 r0,.int .i64 r1]) /\ R r0 r1 w'
theorem C69.mono {g1 : TyA30} {f2 : TyA34} {code3 : Int} {w : World} {R R' : Int -> Int -> World -> Prop} (h : C69 g1 f2 code3 w R) (hr : ∀ r0 r1 w',R r0 r1 w' -> R' r0 r1 w') : C69 g1 f2 code3 w R' :=
 Calls.mono h fun _ _ ⟨r0,r1,he,hR⟩=> ⟨r0,r1,he,hr _ _ _ hR⟩
def C71 (n1 : Int) (scale2 : Int) (w : World) (R : Int -> Int -> World -> Prop) : Prop :=
 Calls Tryz.prog 71 #[.int .i64 n1,.int .i64 scale2] w fun e w'=> ∃ r0 : Int,∃ r1 : Int,e = .returned (.tuple #[.int .i64 r0,.int .i64 r1]) /\ R r0 r1 w'
theorem C71.mono {n1 : Int} {scale2 : Int} {w : World} {R R' : Int -> Int -> World -> Prop} (h : C71 n1 scale2 w R) (hr : ∀ r0 r1 w',R r0 r1 w' -> R' r0 r1 w') : C71 n1 scale2 w R' :=
 Calls.mono h fun _ _ ⟨r0,r1,he,hR⟩=> ⟨r0,r1,he,hr _ _ _ hR⟩
def C37 (g1 : TyA30) (f2 : TyA34) (code3 : Int) (w : World) (R : Int -> Int -> World -> Prop) : Prop :=
 Calls Tryz.prog 37 #[.agg (Sig.cells LiA30 g1).toArray,.agg (Sig.cells LiA34 f2).toArray,.int .i64 code3] w fun e w'=> ∃ r0 : Int,∃ r1 : Int,e = .returned (.tuple #[.int .i64 r0,.int .i64 r1]) /\ R r0 r1 w'
theorem C37.mono {g1 : TyA30} {f2 : TyA34} {code3 : Int} {w : World} {R R' : Int -> Int -> World -> Prop} (h : C37 g1 f2 code3 w R) (hr : ∀ r0 r1 w',R r0 r1 w' -> R' r0 r1 w') : C37 g1 f2 code3 w R' :=
 Calls.mono h fun _ _ ⟨r0,r1,he,hR⟩=> ⟨r0,r1,he,hr _ _ _ hR⟩
def C12 (g1 : TyA30) (f2 : TyA34) (code3 : Int) (w : World) (R : Int -> Int -> World -> Prop) : Prop :=
 Calls Tryz.prog 12 #[.agg (Sig.cells LiA30 g1).toArray,.agg (Sig.cells LiA34 f2).toArray,.int .i64 code3] w fun e w'=> ∃ r0 : Int,∃ r1 : Int,e = .returned (.tuple #[.int .i64 r0,.int .i64 r1]) /\ R r0 r1 w'
theorem C12.mono {g1 : TyA30} {f2 : TyA34} {code3 : Int} {w : World} {R R' : Int -> Int -> World -> Prop} (h : C12 g1 f2 code3 w R) (hr : ∀ r0 r1 w',R r0 r1 w' -> R' r0 r1 w') : C12 g1 f2 code3 w R' :=
 Calls.mono h fun _ _ ⟨r0,r1,he,hR⟩=> ⟨r0,r1,he,hr _ _ _ hR⟩
def C45 (name1 : ByteArray) (w : World) (R : Bool -> World -> Prop) : Prop :=
 Calls Tryz.prog 45 #[.string name1] w fun e w'=> ∃ r0 : Bool,e = .returned (.bool r0) /\ R r0 w'
theorem C45.mono {name1 : ByteArray} {w : World} {R R' : Bool -> World -> Prop} (h : C45 name1 w R) (hr : ∀ r0 w',R r0 w' -> R' r0 w') : C45 name1 w R' :=
 Calls.mono h fun _ _ ⟨r0,he,hR⟩=> ⟨r0,he,hr _ _ hR⟩
def C47 (o1 : ByteArray × Slc × ByteArray) (w : World) (R : Slc -> Int -> World -> Prop) : Prop :=
 Calls Tryz.prog 47 #[.agg #[.string o1.1,Slc.v o1.2.1,.string o1.2.2]] w fun e w'=> ∃ r0 : Slc,∃ r1 : Int,e = .returned (.tuple #[Slc.v r0,.int .i64 r1]) /\ R r0 r1 w'
theorem C47.mono {o1 : ByteArray × Slc × ByteArray} {w : World} {R R' : Slc -> Int -> World -> Prop} (h : C47 o1 w R) (hr : ∀ r0 r1 w',R r0 r1 w' -> R' r0 r1 w') : C47 o1 w R' :=
 Calls.mono h fun _ _ ⟨r0,r1,he,hR⟩=> ⟨r0,r1,he,hr _ _ _ hR⟩
def C48 (x1 : TyA38) (a2 : Int) (b3 : Int) (w : World) (R : (TyA38) -> Int -> World -> Prop) : Prop :=
 Calls Tryz.prog 48 #[.agg (Sig.cells LiA38 x1).toArray,.int .i64 a2,.int .i64 b3] w fun e w'=> ∃ r0 : TyA38,∃ r1 : Int,e = .returned (.tuple #[.agg (Sig.cells LiA38 r0).toArray,.int .i64 r1]) /\ R r0 r1 w'
theorem C48.mono {x1 : TyA38} {a2 : Int} {b3 : Int} {w : World} {R R' : (TyA38) -> Int -> World -> Prop} (h : C48 x1 a2 b3 w R) (hr : ∀ r0 r1 w',R r0 r1 w' -> R' r0 r1 w') : C48 x1 a2 b3 w R' :=
 Calls.mono h fun _ _ ⟨r0,r1,he,hR⟩=> ⟨r0,r1,he,hr _ _ _ hR⟩
def C118 (f1 : TyA34) (s2 : ByteArray) (w : World) (R : Slc -> Int -> World -> Prop) : Prop :=
 Calls Tryz.prog 118 #[.agg (Sig.cells LiA34 f1).toArray,.string s2] w fun e w'=> ∃ r0 : Slc,∃ r1 : Int,e = .returned (.tuple #[Slc.v r0,.int .i64 r1]) /\ R r0 r1 w'
theorem C118.mono {f1 : TyA34} {s2 : ByteArray} {w : World} {R R' : Slc -> Int -> World -> Prop} (h : C118 f1 s2 w R) (hr : ∀ r0 r1 w',R r0 r1 w' -> R' r0 r1 w') : C118 f1 s2 w R' :=
 Calls.mono h fun _ _ ⟨r0,r1,he,hR⟩=> ⟨r0,r1,he,hr _ _ _ hR⟩
def C148 (l1 : Slc) (code2 : Int) (w : World) (R : ByteArray -> Bool -> World -> Prop) : Prop :=
 Calls Tryz.prog 148 #[Slc.v l1,.int .i64 code2] w fun e w'=> ∃ r0 : ByteArray,∃ r1 : Bool,e = .returned (.tuple #[.string r0,.bool r1]) /\ R r0 r1 w'
theorem C148.mono {l1 : Slc} {code2 : Int} {w : World} {R R' : ByteArray -> Bool -> World -> Prop} (h : C148 l1 code2 w R) (hr : ∀ r0 r1 w',R r0 r1 w' -> R' r0 r1 w') : C148 l1 code2 w R' :=
 Calls.mono h fun _ _ ⟨r0,r1,he,hR⟩=> ⟨r0,r1,he,hr _ _ _ hR⟩
def C149 (w : World) (R : Slc -> World -> Prop) : Prop :=
 Calls Tryz.prog 149 #[] w fun e w'=> ∃ r0 : Slc,e = .returned (Slc.v r0) /\ R r0 w'
theorem C149.mono {w : World} {R R' : Slc -> World -> Prop} (h : C149 w R) (hr : ∀ r0 w',R r0 w' -> R' r0 w') : C149 w R' :=
 Calls.mono h fun _ _ ⟨r0,he,hR⟩=> ⟨r0,he,hr _ _ hR⟩
def C158 (c1 : Int) (w : World) (R : Int -> World -> Prop) : Prop :=
 Calls Tryz.prog 158 #[.int .u8 c1] w fun e w'=> ∃ r0 : Int,e = .returned (.int .i64 r0) /\ R r0 w'
theorem C158.mono {c1 : Int} {w : World} {R R' : Int -> World -> Prop} (h : C158 c1 w R) (hr : ∀ r0 w',R r0 w' -> R' r0 w') : C158 c1 w R' :=
 Calls.mono h fun _ _ ⟨r0,he,hR⟩=> ⟨r0,he,hr _ _ hR⟩
def C150 (name1 : ByteArray) (w : World) (R : ByteArray -> World -> Prop) : Prop :=
 Calls Tryz.prog 150 #[.string name1] w fun e w'=> ∃ r0 : ByteArray,e = .returned (.string r0) /\ R r0 w'
theorem C150.mono {name1 : ByteArray} {w : World} {R R' : ByteArray -> World -> Prop} (h : C150 name1 w R) (hr : ∀ r0 w',R r0 w' -> R' r0 w') : C150 name1 w R' :=
 Calls.mono h fun _ _ ⟨r0,he,hR⟩=> ⟨r0,he,hr _ _ hR⟩
def C138 (f1 : TyA34) (code2 : Int) (w : World) (R : ByteArray -> World -> Prop) : Prop :=
 Calls Tryz.prog 138 #[.agg (Sig.cells LiA34 f1).toArray,.int .i64 code2] w fun e w'=> ∃ r0 : ByteArray,e = .returned (.string r0) /\ R r0 w'
theorem C138.mono {f1 : TyA34} {code2 : Int} {w : World} {R R' : ByteArray -> World -> Prop} (h : C138 f1 code2 w R) (hr : ∀ r0 w',R r0 w' -> R' r0 w') : C138 f1 code2 w R' :=
 Calls.mono h fun _ _ ⟨r0,he,hR⟩=> ⟨r0,he,hr _ _ hR⟩
def C119 (g1 : TyA30) (m2 : Int × Int × Int × Int × Int × Int) (f3 : TyA34) (code4 : Int) (w : World) (R : (TyA69) -> (Int × Int × Int × Int × Int × Int) -> Int -> World -> Prop) : Prop :=
 Calls Tryz.prog 119 #[.agg (Sig.cells LiA30 g1).toArray,.agg #[.int .i64 (m2.1),.int .i64 (m2.2.1),.int .i64 (m2.2.2.1),.int .i64 (m2.2.2.2.1),.int .i64 (m2.2.2.2.2.1),.int .i64 (m2.2.2.2.2.2)],.agg (Sig.cells LiA34 f3).toArray,.int .i64 code4] w fun e w'=> ∃ r0 : TyA69,∃ r1 : Int × Int × Int × Int × Int × Int,∃ r2 : Int,e = .returned (.tuple #[.agg (Sig.cells LiA69 r0).toArray,.agg #[.int .i64 (r1.1),.int .i64 (r1.2.1),.int .i64 (r1.2.2.1),.int .i64 (r1.2.2.2.1),.int .i64 (r1.2.2.2.2.1),.int .i64 (r1.2.2.2.2.2)],.int .i64 r2]) /\ R r0 r1 r2 w'
theorem C119.mono {g1 : TyA30} {m2 : Int × Int × Int × Int × Int × Int} {f3 : TyA34} {code4 : Int} {w : World} {R R' : (TyA69) -> (Int × Int × Int × Int × Int × Int) -> Int -> World -> Prop} (h : C119 g1 m2 f3 code4 w R) (hr : ∀ r0 r1 r2 w',R r0 r1 r2 w' -> R' r0 r1 r2 w') : C119 g1 m2 f3 code4 w R' :=
 Calls.mono h fun _ _ ⟨r0,r1,r2,he,hR⟩=> ⟨r0,r1,r2,he,hr _ _ _ _ hR⟩
def C87 (g1 : TyA30) (m2 : Int × Int × Int × Int × Int × Int) (f3 : TyA34) (s4 : ByteArray) (w : World) (R : Slc -> (Int × Int × Int × Int × Int × Int) -> Int -> World -> Prop) : Prop :=
 Calls Tryz.prog 87 #[.agg (Sig.cells LiA30 g1).toArray,.agg #[.int .i64 (m2.1),.int .i64 (m2.2.1),.int .i64 (m2.2.2.1),.int .i64 (m2.2.2.2.1),.int .i64 (m2.2.2.2.2.1),.int .i64 (m2.2.2.2.2.2)],.agg (Sig.cells LiA34 f3).toArray,.string s4] w fun e w'=> ∃ r0 : Slc,∃ r1 : Int × Int × Int × Int × Int × Int,∃ r2 : Int,e = .returned (.tuple #[Slc.v r0,.agg #[.int .i64 (r1.1),.int .i64 (r1.2.1),.int .i64 (r1.2.2.1),.int .i64 (r1.2.2.2.1),.int .i64 (r1.2.2.2.2.1),.int .i64 (r1.2.2.2.2.2)],.int .i64 r2]) /\ R r0 r1 r2 w'
theorem C87.mono {g1 : TyA30} {m2 : Int × Int × Int × Int × Int × Int} {f3 : TyA34} {s4 : ByteArray} {w : World} {R R' : Slc -> (Int × Int × Int × Int × Int × Int) -> Int -> World -> Prop} (h : C87 g1 m2 f3 s4 w R) (hr : ∀ r0 r1 r2 w',R r0 r1 r2 w' -> R' r0 r1 r2 w') : C87 g1 m2 f3 s4 w R' :=
 Calls.mono h fun _ _ ⟨r0,r1,r2,he,hR⟩=> ⟨r0,r1,r2,he,hr _ _ _ _ hR⟩
def C50 (x1 : TyA38) (g2 : TyA30) (f3 : TyA34) (s4 : ByteArray) (w : World) (R : (TyA38) -> Slc -> Int -> World -> Prop) : Prop :=
 Calls Tryz.prog 50 #[.agg (Sig.cells LiA38 x1).toArray,.agg (Sig.cells LiA30 g2).toArray,.agg (Sig.cells LiA34 f3).toArray,.string s4] w fun e w'=> ∃ r0 : TyA38,∃ r1 : Slc,∃ r2 : Int,e = .returned (.tuple #[.agg (Sig.cells LiA38 r0).toArray,Slc.v r1,.int .i64 r2]) /\ R r0 r1 r2 w'
theorem C50.mono {x1 : TyA38} {g2 : TyA30} {f3 : TyA34} {s4 : ByteArray} {w : World} {R R' : (TyA38) -> Slc -> Int -> World -> Prop} (h : C50 x1 g2 f3 s4 w R) (hr : ∀ r0 r1 r2 w',R r0 r1 r2 w' -> R' r0 r1 r2 w') : C50 x1 g2 f3 s4 w R' :=
 Calls.mono h fun _ _ ⟨r0,r1,r2,he,hR⟩=> ⟨r0,r1,r2,he,hr _ _ _ _ hR⟩
def C51 (x1 : TyA38) (g2 : TyA30) (f3 : TyA34) (s4 : ByteArray) (w : World) (R : (TyA38) -> Slc -> Int -> World -> Prop) : Prop :=
 Calls Tryz.prog 51 #[.agg (Sig.cells LiA38 x1).toArray,.agg (Sig.cells LiA30 g2).toArray,.agg (Sig.cells LiA34 f3).toArray,.string s4] w fun e w'=> ∃ r0 : TyA38,∃ r1 : Slc,∃ r2 : Int,e = .returned (.tuple #[.agg (Sig.cells LiA38 r0).toArray,Slc.v r1,.int .i64 r2]) /\ R r0 r1 r2 w'
theorem C51.mono {x1 : TyA38} {g2 : TyA30} {f3 : TyA34} {s4 : ByteArray} {w : World} {R R' : (TyA38) -> Slc -> Int -> World -> Prop} (h : C51 x1 g2 f3 s4 w R) (hr : ∀ r0 r1 r2 w',R r0 r1 r2 w' -> R' r0 r1 r2 w') : C51 x1 g2 f3 s4 w R' :=
 Calls.mono h fun _ _ ⟨r0,r1,r2,he,hR⟩=> ⟨r0,r1,r2,he,hr _ _ _ _ hR⟩
def C88 (g1 : TyA30) (m2 : Int × Int × Int × Int × Int × Int) (n3 : Int) (w : World) (R : (Int × Int × Int × Int × Int × Int) -> Int -> World -> Prop) : Prop :=
 Calls Tryz.prog 88 #[.agg (Sig.cells LiA30 g1).toArray,.agg #[.int .i64 (m2.1),.int .i64 (m2.2.1),.int .i64 (m2.2.2.1),.int .i64 (m2.2.2.2.1),.int .i64 (m2.2.2.2.2.1),.int .i64 (m2.2.2.2.2.2)],.int .i64 n3] w fun e w'=> ∃ r0 : Int × Int × Int × Int × Int × Int,∃ r1 : Int,e = .returned (.tuple #[.agg #[.int .i64 (r0.1),.int .i64 (r0.2.1),.int .i64 (r0.2.2.1),.int .i64 (r0.2.2.2.1),.int .i64 (r0.2.2.2.2.1),.int .i64 (r0.2.2.2.2.2)],.int .i64 r1]) /\ R r0 r1 w'
theorem C88.mono {g1 : TyA30} {m2 : Int × Int × Int × Int × Int × Int} {n3 : Int} {w : World} {R R' : (Int × Int × Int × Int × Int × Int) -> Int -> World -> Prop} (h : C88 g1 m2 n3 w R) (hr : ∀ r0 r1 w',R r0 r1 w' -> R' r0 r1 w') : C88 g1 m2 n3 w R' :=
 Calls.mono h fun _ _ ⟨r0,r1,he,hR⟩=> ⟨r0,r1,he,hr _ _ _ hR⟩
def C52 (x1 : TyA38) (g2 : TyA30) (f3 : TyA34) (o4 : Int × Int × Int × ByteArray × Slc × Slc) (w : World) (R : (TyA38) -> Slc -> Int -> World -> Prop) : Prop :=
 Calls Tryz.prog 52 #[.agg (Sig.cells LiA38 x1).toArray,.agg (Sig.cells LiA30 g2).toArray,.agg (Sig.cells LiA34 f3).toArray,.agg #[.int .i64 (o4.1),.int .i64 (o4.2.1),.int .i64 (o4.2.2.1),.string o4.2.2.2.1,Slc.v o4.2.2.2.2.1,Slc.v o4.2.2.2.2.2]] w fun e w'=> ∃ r0 : TyA38,∃ r1 : Slc,∃ r2 : Int,e = .returned (.tuple #[.agg (Sig.cells LiA38 r0).toArray,Slc.v r1,.int .i64 r2]) /\ R r0 r1 r2 w'
theorem C52.mono {x1 : TyA38} {g2 : TyA30} {f3 : TyA34} {o4 : Int × Int × Int × ByteArray × Slc × Slc} {w : World} {R R' : (TyA38) -> Slc -> Int -> World -> Prop} (h : C52 x1 g2 f3 o4 w R) (hr : ∀ r0 r1 r2 w',R r0 r1 r2 w' -> R' r0 r1 r2 w') : C52 x1 g2 f3 o4 w R' :=
 Calls.mono h fun _ _ ⟨r0,r1,r2,he,hR⟩=> ⟨r0,r1,r2,he,hr _ _ _ _ hR⟩
def C14 (x1 : TyA38) (o2 : ByteArray × Slc × ByteArray) (g3 : TyA30) (f4 : TyA34) (w : World) (R : (TyA38) -> Slc -> Int -> World -> Prop) : Prop :=
 Calls Tryz.prog 14 #[.agg (Sig.cells LiA38 x1).toArray,.agg #[.string o2.1,Slc.v o2.2.1,.string o2.2.2],.agg (Sig.cells LiA30 g3).toArray,.agg (Sig.cells LiA34 f4).toArray] w fun e w'=> ∃ r0 : TyA38,∃ r1 : Slc,∃ r2 : Int,e = .returned (.tuple #[.agg (Sig.cells LiA38 r0).toArray,Slc.v r1,.int .i64 r2]) /\ R r0 r1 r2 w'
theorem C14.mono {x1 : TyA38} {o2 : ByteArray × Slc × ByteArray} {g3 : TyA30} {f4 : TyA34} {w : World} {R R' : (TyA38) -> Slc -> Int -> World -> Prop} (h : C14 x1 o2 g3 f4 w R) (hr : ∀ r0 r1 r2 w',R r0 r1 r2 w' -> R' r0 r1 r2 w') : C14 x1 o2 g3 f4 w R' :=
 Calls.mono h fun _ _ ⟨r0,r1,r2,he,hR⟩=> ⟨r0,r1,r2,he,hr _ _ _ _ hR⟩
def C3 (l1 : Slc) (g2 : TyA30) (f3 : TyA34) (code4 : Int) (w : World) (R : Bool -> World -> Prop) : Prop :=
 Calls Tryz.prog 3 #[Slc.v l1,.agg (Sig.cells LiA30 g2).toArray,.agg (Sig.cells LiA34 f3).toArray,.int .i64 code4] w fun e w'=> ∃ r0 : Bool,e = .returned (.bool r0) /\ R r0 w'
def S8 (w : World) (R : (TyA38) -> World -> Prop) : Prop :=
 Nw w (.cells #[.bool false,.int .i64 0,.int .i64 0,.int .i64 0,.int .i64 0,.int .i64 0,.int .i64 0,.int .i64 0,.int .i64 0,.int .i64 0,.int .i64 0,.int .i64 0,.int .i64 0] 39) fun z1=>
 C22 z1 fun r2 z3=>
  C22 z3 fun r4 z5=>
   StT ⟨w.heap.size,0,none⟩ 0 LiA38 ((false,r2.1,r2.2.1,r2.2.2.1,r2.2.2.2.1,r2.2.2.2.2.1,r2.2.2.2.2.2,r4.1,r4.2.1,r4.2.2.1,r4.2.2.2.1,r4.2.2.2.2.1,r4.2.2.2.2.2) : TyA38) z5 fun z6=>
   LdT z6 ⟨w.heap.size,0,none⟩ 0 LiA38 fun (x7 : TyA38)=>
   R x7 z6
def pl8 : Plan := (.q (.q .leaf))
theorem T8 (w : World) (R : (TyA38) -> World -> Prop) (h : S8 w R) : C8 w R := by
 have e : fnT Tryz.prog ⟨FF,MAY,(fun _ _=> False)⟩ pl8 Tryz.f8 [] w [(.agg [.bool,(.int .i64),(.int .i64),(.int .i64),(.int .i64),(.int .i64),(.int .i64),(.int .i64),(.int .i64),(.int .i64),(.int .i64),(.int .i64),(.int .i64)])] (fun s w=> R s w) = S8 w R := by kernel_rfl
 exact (fn_calls okF okM Tryz.func8 (by kernel_rfl) (by kernel_rfl) (e.mpr h)).mono fun _ _ ⟨s,he,hR⟩=> ⟨s,he,hR⟩
def S66L1 (s1 : ByteArray) (least2 : Int) (R : Bool -> World -> Prop) (I8 : Int -> World -> Prop) (s6 : Int) (z7 : World) : Prop :=
 Br (decide (s6 < (((s1).size : Nat) : Int))) (0 <= s6 /\ s6 < ((s1).size : Nat) /\ Br ((bAt s1 s6) == 0) (R false z7) (I8 (IntKind.i64.wrap (s6 + 1)) z7)) (Br (decide ((((s1).size : Nat) : Int) >= least2)) (R (decide ((((s1).size : Nat) : Int) <= 127)) z7) (R false z7))
def S66 (s1 : ByteArray) (least2 : Int) (w : World) (R : Bool -> World -> Prop) : Prop :=
 Lp (σ := Int) (S66L1 s1 least2 R) 0 w
def pl66 : Plan := (.q (.seq (.q (.block (.loop [(5,(.one (.int .i64)))] [0,1] (.seq (.q (.cond .leaf .leaf)) (.seq (.block (.q (.cond (.q .leaf) .leaf))) (.reg .seq)))))) (.q .leaf)))
theorem T66 (s1 : ByteArray) (least2 : Int) (w : World) (R : Bool -> World -> Prop) (h : S66 s1 least2 w R) : C66 s1 least2 w R := by
 have e : fnT Tryz.prog ⟨FF,MAY,(fun _ _=> False)⟩ pl66 Tryz.f66 [.string s1,.int .i64 least2] w [(.one .bool)] (fun s w=> R s w) = S66 s1 least2 w R := by kernel_rfl
 exact (fn_calls okF okM Tryz.func66 (by kernel_rfl) (by kernel_rfl) (e.mpr h)).mono fun _ _ ⟨s,he,hR⟩=> ⟨s,he,hR⟩
def S67 (n1 : Int) (w : World) (R : Bool -> World -> Prop) : Prop :=
 Br (decide (n1 >= 0)) (R (decide (n1 <= 100000)) w) (R false w)
def pl67 : Plan := (.q (.q .leaf))
theorem T67 (n1 : Int) (w : World) (R : Bool -> World -> Prop) (h : S67 n1 w R) : C67 n1 w R := by
 have e : fnT Tryz.prog ⟨FF,MAY,(fun _ _=> False)⟩ pl67 Tryz.f67 [.int .i64 n1] w [(.one .bool)] (fun s w=> R s w) = S67 n1 w R := by kernel_rfl
 exact (fn_calls okF okM Tryz.func67 (by kernel_rfl) (by kernel_rfl) (e.mpr h)).mono fun _ _ ⟨s,he,hR⟩=> ⟨s,he,hR⟩
def S106L1 (w : World) (R : ByteArray -> World -> Prop) (I5 : Slc -> World -> Prop) (s3 : Slc) (z4 : World) : Prop :=
 Nx z4 ⟨w.heap.size,0,none⟩ (fun (i6 : Int) (ch7 : Int) (z8 : World)=>
  Br (decide ((IntKind.i64.wrap ch7) > 65535)) (Lt (IntKind.i64.wrap (55296 + (IntKind.i64.wrap (Int.tdiv (IntKind.i64.wrap ((IntKind.i64.wrap ch7) - 65536)) 1024)))) fun (x14 : Int)=>
   Nw z8 (.cells #[.int .u8 (IntKind.u8.wrap (IntKind.i64.wrap (Int.tdiv x14 256))),.int .u8 (IntKind.u8.wrap (Int.tmod x14 256))] 5) fun z15=>
   Rn Tryz.prog (Builtin.append_ #[169,169] 169 #[Slc.v s3,Slc.v ((⟨some ⟨z8.heap.size,0,none⟩,2,2⟩ : Slc))]) z15 Slc.v fun (x16 : Slc) z17=>
   Lt (IntKind.i64.wrap (56320 + (Int.tmod (IntKind.i64.wrap ((IntKind.i64.wrap ch7) - 65536)) 1024))) fun (x18 : Int)=>
   Nw z17 (.cells #[.int .u8 (IntKind.u8.wrap (IntKind.i64.wrap (Int.tdiv x18 256))),.int .u8 (IntKind.u8.wrap (Int.tmod x18 256))] 5) fun z19=>
   Rn Tryz.prog (Builtin.append_ #[169,169] 169 #[Slc.v x16,Slc.v ((⟨some ⟨z17.heap.size,0,none⟩,2,2⟩ : Slc))]) z19 Slc.v fun (x20 : Slc) z21=>
   I5 x20 z21) (Nw z8 (.cells #[.int .u8 (IntKind.u8.wrap (IntKind.i64.wrap (Int.tdiv (IntKind.i64.wrap ch7) 256))),.int .u8 (IntKind.u8.wrap (Int.tmod (IntKind.i64.wrap ch7) 256))] 5) fun z22=>
   Rn Tryz.prog (Builtin.append_ #[169,169] 169 #[Slc.v s3,Slc.v ((⟨some ⟨z8.heap.size,0,none⟩,2,2⟩ : Slc))]) z22 Slc.v fun (x23 : Slc) z24=>
   I5 x23 z24)) (Rn Tryz.prog (convert 169 9 (Slc.v s3)) z4 Value.string fun (x25 : ByteArray) z26=>
  R x25 z26)
def S106 (s1 : ByteArray) (w : World) (R : ByteArray -> World -> Prop) : Prop :=
 Nw w (.stringIter s1 0) fun z2=>
 Lp (σ := Slc) (S106L1 w R) (⟨none,0,0⟩ : Slc) z2
def pl106 : Plan := (.q (.q (.seq (.q (.block (.loop [(3,(.one .slc))] [9] (.q (.seq (.cond .leaf .leaf) (.block (.q (.q (.seq (.q (.cond (.q (.q (.q (.reg .seq)))) .leaf)) (.reg .seq)))))))))) (.q .leaf))))
theorem T106 (s1 : ByteArray) (w : World) (R : ByteArray -> World -> Prop) (h : S106 s1 w R) : C106 s1 w R := by
 have e : fnT Tryz.prog ⟨FF,MAY,(fun _ _=> False)⟩ pl106 Tryz.f106 [.string s1] w [(.one .str)] (fun s w=> R s w) = S106 s1 w R := by kernel_rfl
 exact (fn_calls okF okM Tryz.func106 (by kernel_rfl) (by kernel_rfl) (e.mpr h)).mono fun _ _ ⟨s,he,hR⟩=> ⟨s,he,hR⟩
def S145 (s1 : ByteArray) (vat2 : Int) (w : World) (R : Int -> World -> Prop) : Prop :=
 0 <= vat2 /\ vat2 < ((s1).size : Nat) /\ 0 <= (IntKind.i64.wrap (vat2 + 1)) /\ (IntKind.i64.wrap (vat2 + 1)) < ((s1).size : Nat) /\ Lt (IntKind.i64.wrap ((IntKind.i64.wrap (256 * (IntKind.i64.wrap (bAt s1 vat2)))) + (IntKind.i64.wrap (bAt s1 (IntKind.i64.wrap (vat2 + 1)))))) fun (x3 : Int)=>
 R x3 w.drew
def pl145 : Plan := (.q (.seq (.reg .still) .leaf))
theorem T145 (s1 : ByteArray) (vat2 : Int) (w : World) (R : Int -> World -> Prop) (h : S145 s1 vat2 w R) : C145 s1 vat2 w R := by
 have e : fnT Tryz.prog ⟨FF,MAY,(fun _ _=> False)⟩ pl145 Tryz.f145 [.string s1,.int .i64 vat2] w [(.one (.int .i64))] (fun s w=> R s w) = S145 s1 vat2 w R := by kernel_rfl
 exact (fn_calls okF okM Tryz.func145 (by kernel_rfl) (by kernel_rfl) (e.mpr h)).mono fun _ _ ⟨s,he,hR⟩=> ⟨s,he,hR⟩
def S127J1 (s1 : ByteArray) (s2 : Slc × Int) (I4 : (Slc × Int) -> World -> Prop) (r5 : Int) (R : ByteArray -> Int -> World -> Prop) (s7 : Unit) (z8 : World) : Prop :=
 Br (decide (r5 >= 55296)) (Br (decide (r5 <= 56319)) (Br (decide ((IntKind.i64.wrap (s2.2 + 2)) >= (((s1).size : Nat) : Int))) (R (⟨#[]⟩ : ByteArray) 3 z8) (C145 s1 (IntKind.i64.wrap (s2.2 + 2)) z8 fun r13 z14=>
     Br (decide (r13 < 56320)) (R (⟨#[]⟩ : ByteArray) 3 z14) (C145 s1 (IntKind.i64.wrap (s2.2 + 2)) z14 fun r15 z16=>
       Br (decide (r15 > 57343)) (R (⟨#[]⟩ : ByteArray) 3 z16) (C145 s1 (IntKind.i64.wrap (s2.2 + 2)) z16 fun r17 z18=>
         Lt (IntKind.i64.wrap ((IntKind.i64.wrap (65536 + (IntKind.i64.wrap (1024 * (IntKind.i64.wrap (r5 - 55296)))))) + r17)) fun (x19 : Int)=>
         Nw z18 (.cells #[.int .i32 (IntKind.i32.wrap (IntKind.i64.wrap (x19 - 56320)))] 21) fun z20=>
         Rn Tryz.prog (Builtin.append_ #[182,182] 182 #[Slc.v s2.1,Slc.v ((⟨some ⟨z18.heap.size,0,none⟩,1,1⟩ : Slc))]) z20 Slc.v fun (x21 : Slc) z22=>
         I4 (x21,IntKind.i64.wrap ((IntKind.i64.wrap (s2.2 + 2)) + 2)) z22)))) (Nw z8 (.cells #[.int .i32 (IntKind.i32.wrap r5)] 21) fun z23=>
   Rn Tryz.prog (Builtin.append_ #[182,182] 182 #[Slc.v s2.1,Slc.v ((⟨some ⟨z8.heap.size,0,none⟩,1,1⟩ : Slc))]) z23 Slc.v fun (x24 : Slc) z25=>
   I4 (x24,IntKind.i64.wrap (s2.2 + 2)) z25)) (Nw z8 (.cells #[.int .i32 (IntKind.i32.wrap r5)] 21) fun z26=>
  Rn Tryz.prog (Builtin.append_ #[182,182] 182 #[Slc.v s2.1,Slc.v ((⟨some ⟨z8.heap.size,0,none⟩,1,1⟩ : Slc))]) z26 Slc.v fun (x27 : Slc) z28=>
  I4 (x27,IntKind.i64.wrap (s2.2 + 2)) z28)
def S127L1 (s1 : ByteArray) (R : ByteArray -> Int -> World -> Prop) (I4 : (Slc × Int) -> World -> Prop) (s2 : Slc × Int) (z3 : World) : Prop :=
 Br (decide (s2.2 < (((s1).size : Nat) : Int))) (C145 s1 s2.2 z3 fun r5 z6=>
   Join (S127J1 s1 s2 I4 r5 R) fun (vJ29 : Unit -> World -> Prop)=>
    Br (decide (r5 >= 56320)) (Br (decide (r5 <= 57343)) (R (⟨#[]⟩ : ByteArray) 3 z6) (vJ29 () z6)) (vJ29 () z6)) (Rn Tryz.prog (convert 182 9 (Slc.v s2.1)) z3 Value.string fun (x30 : ByteArray) z31=>
  R x30 0 z31)
def S127 (s1 : ByteArray) (w : World) (R : ByteArray -> Int -> World -> Prop) : Prop :=
 Br ((Int.tmod (((s1).size : Nat) : Int) 2) == 1) (R (⟨#[]⟩ : ByteArray) 3 w) (Lp (σ := Slc × Int) (S127L1 s1 R) ((⟨none,0,0⟩ : Slc),0) w)
def pl127 : Plan := (.q (.seq (.q (.cond (.q .leaf) .leaf)) (.q (.seq (.q (.block (.loop [(4,(.one .slc)),(5,(.one (.int .i64)))] [0] (.seq (.q (.cond .leaf .leaf)) (.seq (.block (.q (.join [] [0,4,5,6] (.q (.cond (.q .leaf) .leaf)) (.seq (.q (.cond (.seq (.q (.cond (.q .leaf) .leaf)) (.q (.reg .seq))) .leaf)) (.reg .seq))))) (.reg .seq)))))) (.q .leaf)))))
theorem T127 (s1 : ByteArray) (w : World) (R : ByteArray -> Int -> World -> Prop) (h : S127 s1 w R) : C127 s1 w R := by
 have e : fnT Tryz.prog ⟨FF,MAY,(fun _ _=> False)⟩ pl127 Tryz.f127 [.string s1] w [(.one .str),(.one (.int .i64))] (fun s w=> R s.1 s.2 w) = S127 s1 w R := by kernel_rfl
 exact (fn_calls okF okM Tryz.func127 (by kernel_rfl) (by kernel_rfl) (e.mpr h)).mono fun _ _ ⟨s,he,hR⟩=> ⟨s.1,s.2,he,hR⟩
def S105 (s1 : ByteArray) (w : World) (R : Bool -> World -> Prop) : Prop :=
 C106 s1 w fun r2 z3=>
  C127 r2 z3 fun r4 r5 z6=>
   Br (r5 == 0) (R (r4.toList == s1.toList) z6) (R false z6)
def pl105 : Plan := (.q (.q (.q .leaf)))
theorem T105 (s1 : ByteArray) (w : World) (R : Bool -> World -> Prop) (h : S105 s1 w R) : C105 s1 w R := by
 have e : fnT Tryz.prog ⟨FF,MAY,(fun _ _=> False)⟩ pl105 Tryz.f105 [.string s1] w [(.one .bool)] (fun s w=> R s w) = S105 s1 w R := by kernel_rfl
 exact (fn_calls okF okM Tryz.func105 (by kernel_rfl) (by kernel_rfl) (e.mpr h)).mono fun _ _ ⟨s,he,hR⟩=> ⟨s,he,hR⟩
def S68L1 (l1 : Slc) (s3 : Int) (R : Int -> World -> Prop) (I7 : Int -> World -> Prop) (s5 : Int) (z6 : World) : Prop :=
 Br (decide (s5 < ((l1.len : Nat) : Int))) (0 <= s5 /\ s5 < (l1.len : Nat) /\ Nn l1.p fun a12=>
  Ld z6 (a12.add ((s5).toNat * 2)) (.int .i64) fun x13=>
  Br (decide (x13 < 0)) (R 2 z6) (0 <= s5 /\ s5 < (l1.len : Nat) /\ Nn l1.p fun a14=>
   Ld z6 (a14.add ((s5).toNat * 2)) (.int .i64) fun x15=>
   Br (decide (x15 > s3)) (R 2 z6) (0 <= s5 /\ s5 < (l1.len : Nat) /\ Nn l1.p fun a20=>
    Ld z6 ((a20.add ((s5).toNat * 2)).add 1) .string fun x21=>
    C105 x21 z6 fun r22 z23=>
     Br (!r22) (R 3 z23) (0 <= s5 /\ s5 < (l1.len : Nat) /\ Nn l1.p fun a28=>
      Ld z23 ((a28.add ((s5).toNat * 2)).add 1) .string fun x29=>
      C106 x29 z23 fun r30 z31=>
       Br (decide ((((r30).size : Nat) : Int) > 512)) (R 5 z31) (Br (decide (s5 > 0)) (0 <= s5 /\ s5 < (l1.len : Nat) /\ Nn l1.p fun a36=>
         Ld z31.drew (a36.add ((s5).toNat * 2)) (.int .i64) fun x37=>
         0 <= (IntKind.i64.wrap (s5 - 1)) /\ (IntKind.i64.wrap (s5 - 1)) < (l1.len : Nat) /\ Nn l1.p fun a38=>
         Ld z31.drew (a38.add ((IntKind.i64.wrap (s5 - 1)).toNat * 2)) (.int .i64) fun x39=>
         Br (x37 == x39) (R 9 z31.drew) (Br (decide (s5 > 0)) (0 <= s5 /\ s5 < (l1.len : Nat) /\ Nn l1.p fun a40=>
           Ld z31.drew.drew (a40.add ((s5).toNat * 2)) (.int .i64) fun x41=>
           0 <= (IntKind.i64.wrap (s5 - 1)) /\ (IntKind.i64.wrap (s5 - 1)) < (l1.len : Nat) /\ Nn l1.p fun a42=>
           Ld z31.drew.drew (a42.add ((IntKind.i64.wrap (s5 - 1)).toNat * 2)) (.int .i64) fun x43=>
           Br (decide (x41 < x43)) (R 1 z31.drew.drew) (I7 (IntKind.i64.wrap (s5 + 1)) z31.drew.drew)) (I7 (IntKind.i64.wrap (s5 + 1)) z31.drew.drew))) (Br (decide (s5 > 0)) (0 <= s5 /\ s5 < (l1.len : Nat) /\ Nn l1.p fun a44=>
          Ld z31.drew.drew (a44.add ((s5).toNat * 2)) (.int .i64) fun x45=>
          0 <= (IntKind.i64.wrap (s5 - 1)) /\ (IntKind.i64.wrap (s5 - 1)) < (l1.len : Nat) /\ Nn l1.p fun a46=>
          Ld z31.drew.drew (a46.add ((IntKind.i64.wrap (s5 - 1)).toNat * 2)) (.int .i64) fun x47=>
          Br (decide (x45 < x47)) (R 1 z31.drew.drew) (I7 (IntKind.i64.wrap (s5 + 1)) z31.drew.drew)) (I7 (IntKind.i64.wrap (s5 + 1)) z31.drew.drew))))))) (R 0 z6)
def S68J1 (l1 : Slc) (R : Int -> World -> Prop) (s3 : Int) (z4 : World) : Prop :=
 Br (decide (((l1.len : Nat) : Int) > 4096)) (R 6 z4) (Lp (σ := Int) (S68L1 l1 s3 R) 0 z4)
def S68 (l1 : Slc) (wide2 : Bool) (w : World) (R : Int -> World -> Prop) : Prop :=
 Join (S68J1 l1 R) fun (vJ48 : Int -> World -> Prop)=>
  Br wide2 (vJ48 65535 w) (vJ48 255 w)
def pl68 : Plan := (.q (.q (.join [(5,(.one (.int .i64)))] [0] (.q (.cond (.reg .seq) .leaf)) (.seq (.q (.cond (.q .leaf) .leaf)) (.seq (.q (.block (.loop [(6,(.one (.int .i64)))] [0,5] (.seq (.q (.cond .leaf .leaf)) (.seq (.block (.seq (.q (.cond (.q .leaf) .leaf)) (.seq (.q (.cond (.q .leaf) .leaf)) (.seq (.q (.cond (.q .leaf) .leaf)) (.seq (.seq (.reg .still) (.cond (.q .leaf) .leaf)) (.seq (.reg .still) (.cond (.q .leaf) .leaf))))))) (.reg .seq)))))) (.q .leaf))))))
theorem T68 (l1 : Slc) (wide2 : Bool) (w : World) (R : Int -> World -> Prop) (h : S68 l1 wide2 w R) : C68 l1 wide2 w R := by
 have e : fnT Tryz.prog ⟨FF,MAY,(fun _ _=> False)⟩ pl68 Tryz.f68 [Slc.v l1,.bool wide2] w [(.one (.int .i64))] (fun s w=> R s w) = S68 l1 wide2 w R := by kernel_rfl
 exact (fn_calls okF okM Tryz.func68 (by kernel_rfl) (by kernel_rfl) (e.mpr h)).mono fun _ _ ⟨s,he,hR⟩=> ⟨s,he,hR⟩
def S36L1 (w : World) (R : Int -> World -> Prop) (I64 : Int -> World -> Prop) (s62 : Int) (z63 : World) : Prop :=
 Ld z63 (.add ⟨w.heap.size,0,none⟩ 5) Slc.v fun x65=>
 Br (decide (s62 < ((x65.len : Nat) : Int))) (Ld z63 (.add ⟨w.heap.size,0,none⟩ 5) Slc.v fun x66=>
  0 <= s62 /\ s62 < (x66.len : Nat) /\ Nn x66.p fun a67=>
  Ld z63 (a67.add ((s62).toNat * 1)) .string fun x68=>
  C66 x68 0 z63 fun r69 z70=>
   Br (!r69) (R 1 z70) (I64 (IntKind.i64.wrap (s62 + 1)) z70)) (Ld z63 (.add ⟨w.heap.size,0,none⟩ 6) Slc.v fun x71=>
  Ld z63 (.add ⟨w.heap.size,0,none⟩ 1) Value.bool fun (x72 : Bool)=>
  C68 x71 x72 z63 fun r73 z74=>
   R r73 z74)
def S36J1 (w : World) (R : Int -> World -> Prop) (s50 : Unit) (z51 : World) : Prop :=
 Lp (σ := Int) (S36L1 w R) 0 z51
def S36L2 (w : World) (R : Int -> World -> Prop) (I40 : Int -> World -> Prop) (s38 : Int) (z39 : World) : Prop :=
 Ld z39 (.add ⟨w.heap.size,0,none⟩ 3) Slc.v fun x41=>
 Br (decide (s38 < ((x41.len : Nat) : Int))) (Ld z39 (.add ⟨w.heap.size,0,none⟩ 3) Slc.v fun x42=>
  0 <= s38 /\ s38 < (x42.len : Nat) /\ Nn x42.p fun a43=>
  Ld z39 (a43.add ((s38).toNat * 1)) (.int .i64) fun x44=>
  C67 x44 z39 fun r45 z46=>
   Br (!r45) (R 1 z46) (I40 (IntKind.i64.wrap (s38 + 1)) z46)) (Join (S36J1 w R) fun (vJ75 : Unit -> World -> Prop)=>
   Ld z39 (.add ⟨w.heap.size,0,none⟩ 5) Slc.v fun x76=>
   Br (((x76.len : Nat) : Int) != 0) (Ld z39 (.add ⟨w.heap.size,0,none⟩ 1) Value.bool fun (x77 : Bool)=>
    Br x77 (R 1 z39) (Ld z39 (.add ⟨w.heap.size,0,none⟩ 5) Slc.v fun x78=>
     Br (((x78.len : Nat) : Int) != 256) (R 1 z39) (vJ75 () z39))) (vJ75 () z39))
def S36J2 (w : World) (R : Int -> World -> Prop) (s4 : Int) (z5 : World) : Prop :=
 Ld z5 ⟨w.heap.size,0,none⟩ .string fun x17=>
 C66 x17 1 z5 fun r18 z19=>
  Br (!r18) (R 1 z19) (Ld z19 (.add ⟨w.heap.size,0,none⟩ 2) (.int .i64) fun x20=>
   Br (decide (x20 < 0)) (R 1 z19) (Ld z19 (.add ⟨w.heap.size,0,none⟩ 2) (.int .i64) fun x21=>
    Br (decide (x21 > s4)) (R 1 z19) (Ld z19 (.add ⟨w.heap.size,0,none⟩ 2) (.int .i64) fun x22=>
     Ld z19 (.add ⟨w.heap.size,0,none⟩ 3) Slc.v fun x23=>
     Br (decide ((IntKind.i64.wrap (x22 + ((x23.len : Nat) : Int))) > s4)) (R 1 z19) (Ld z19 (.add ⟨w.heap.size,0,none⟩ 3) Slc.v fun x24=>
      Br (decide (((x24.len : Nat) : Int) > 4096)) (R 1 z19) (Ld z19 (.add ⟨w.heap.size,0,none⟩ 4) (.int .i64) fun x25=>
       C67 x25 z19 fun r26 z27=>
        Br (!r26) (R 1 z27) (Lp (σ := Int) (S36L2 w R) 0 z27))))))
def S36 (f1 : TyA34) (w : World) (R : Int -> World -> Prop) : Prop :=
 Nw w (.cells (Sig.cells LiA34 f1).toArray 35) fun z2=>
 Join (S36J2 w R) fun (vJ79 : Int -> World -> Prop)=>
  Ld z2 (.add ⟨w.heap.size,0,none⟩ 1) Value.bool fun (x80 : Bool)=>
  Br x80 (vJ79 65536 z2) (vJ79 256 z2)
def pl36 : Plan := (.q (.q (.join [(3,(.one (.int .i64)))] [1] (.q (.cond (.reg .seq) .leaf)) (.seq (.q (.cond (.q .leaf) .leaf)) (.seq (.q (.block (.loop [(4,(.one (.int .i64)))] [1] (.seq (.q (.cond .leaf .leaf)) (.seq (.block (.q (.cond (.q .leaf) .leaf))) (.reg .seq)))))) (.join [] [1] (.q (.cond (.q .leaf) .leaf)) (.seq (.q (.block (.loop [(5,(.one (.int .i64)))] [1] (.seq (.q (.cond .leaf .leaf)) (.seq (.block (.q (.cond (.q .leaf) .leaf))) (.reg .seq)))))) (.q .leaf))))))))
theorem T36 (f1 : TyA34) (w : World) (R : Int -> World -> Prop) (h : S36 f1 w R) : C36 f1 w R := by
 have e : fnT Tryz.prog ⟨FF,MAY,(fun _ _=> False)⟩ pl36 Tryz.f36 [.agg (Sig.cells LiA34 f1).toArray] w [(.one (.int .i64))] (fun s w=> R s w) = S36 f1 w R := by kernel_rfl
 exact (fn_calls okF okM Tryz.func36 (by kernel_rfl) (by kernel_rfl) (e.mpr h)).mono fun _ _ ⟨s,he,hR⟩=> ⟨s,he,hR⟩
def S108 (f1 : TyA34) (code2 : Int) (w : World) (R : Int -> World -> Prop) : Prop :=
 Nw w (.cells (Sig.cells LiA34 f1).toArray 35) fun z3=>
 Ld z3 (.add ⟨w.heap.size,0,none⟩ 2) (.int .i64) fun x10=>
 Br (decide (code2 < x10)) (Ld z3 (.add ⟨w.heap.size,0,none⟩ 4) (.int .i64) fun x11=>
  R x11 z3) (Ld z3 (.add ⟨w.heap.size,0,none⟩ 2) (.int .i64) fun x12=>
  Ld z3 (.add ⟨w.heap.size,0,none⟩ 3) Slc.v fun x13=>
  Lt (decide ((IntKind.u64.wrap ((IntKind.u64.wrap code2) - (IntKind.u64.wrap x12))) >= (IntKind.u64.wrap ((x13.len : Nat) : Int)))) fun (x14 : Bool)=>
  Br x14 (Ld z3 (.add ⟨w.heap.size,0,none⟩ 4) (.int .i64) fun x15=>
   R x15 z3) (Ld z3 (.add ⟨w.heap.size,0,none⟩ 3) Slc.v fun x16=>
   Ld z3 (.add ⟨w.heap.size,0,none⟩ 2) (.int .i64) fun x17=>
   0 <= (IntKind.u64.wrap ((IntKind.u64.wrap code2) - (IntKind.u64.wrap x17))) /\ (IntKind.u64.wrap ((IntKind.u64.wrap code2) - (IntKind.u64.wrap x17))) < (x16.len : Nat) /\ Nn x16.p fun a18=>
   Ld z3 (a18.add ((IntKind.u64.wrap ((IntKind.u64.wrap code2) - (IntKind.u64.wrap x17))).toNat * 1)) (.int .i64) fun x19=>
   R x19 z3))
def pl108 : Plan := (.q (.seq (.q (.cond (.q .leaf) .leaf)) (.q .leaf)))
theorem T108 (f1 : TyA34) (code2 : Int) (w : World) (R : Int -> World -> Prop) (h : S108 f1 code2 w R) : C108 f1 code2 w R := by
 have e : fnT Tryz.prog ⟨FF,MAY,(fun _ _=> False)⟩ pl108 Tryz.f108 [.agg (Sig.cells LiA34 f1).toArray,.int .i64 code2] w [(.one (.int .i64))] (fun s w=> R s w) = S108 f1 code2 w R := by kernel_rfl
 exact (fn_calls okF okM Tryz.func108 (by kernel_rfl) (by kernel_rfl) (e.mpr h)).mono fun _ _ ⟨s,he,hR⟩=> ⟨s,he,hR⟩
def S69 (g1 : TyA30) (f2 : TyA34) (code3 : Int) (w : World) (R : Int -> Int -> World -> Prop) : Prop :=
 Nw w (.cells (Sig.cells LiA30 g1).toArray 31) fun z4=>
 Nw z4 (.cells (Sig.cells LiA34 f2).toArray 35) fun z5=>
 ∃ vS6 : World -> Prop,vS6 z5.drew /\ LdS vS6 (((⟨w.heap.size,0,none⟩ : Addr).add 22).add 4) (.int .i64) fun x7=>
 LdST vS6 ⟨z4.heap.size,0,none⟩ 0 LiA34 fun (x8 : TyA34)=>
 C108 x8 code3 z5.drew fun r9 z10=>
  vS6 z10 /\ C107 x7 (IntKind.i64.wrap (10 * r9)) z10 fun r11 r12 z13=>
   R r11 r12 z13
def pl69 : Plan := (.q (.seq (.reg (.held [7] (.take 0 (.take 1 (.take 2 (.take 3 (.take 4 (.eff 5 none (.take 6 (.eff 7 (some []) (.take 8 (.take 9 (.take 10 (.take 11 .done)))))))))))))) .leaf))
theorem T69 (g1 : TyA30) (f2 : TyA34) (code3 : Int) (w : World) (R : Int -> Int -> World -> Prop) (h : S69 g1 f2 code3 w R) : C69 g1 f2 code3 w R := by
 have e : fnT Tryz.prog ⟨FF,MAY,(fun _ _=> False)⟩ pl69 Tryz.f69 [.agg (Sig.cells LiA30 g1).toArray,.agg (Sig.cells LiA34 f2).toArray,.int .i64 code3] w [(.one (.int .i64)),(.one (.int .i64))] (fun s w=> R s.1 s.2 w) = S69 g1 f2 code3 w R := by kernel_rfl
 exact (fn_calls okF okM Tryz.func69 (by kernel_rfl) (by kernel_rfl) (e.mpr h)).mono fun _ _ ⟨s,he,hR⟩=> ⟨s.1,s.2,he,hR⟩
def S71 (n1 : Int) (scale2 : Int) (w : World) (R : Int -> Int -> World -> Prop) : Prop :=
 C111 (IntKind.i64.wrap (n1 * scale2)) 1000000 w fun r3 r4 z5=>
  Br (r4 != 0) (R 0 2 z5) (Br (decide (r3 < (-1073741824))) (R 0 2 z5) (Br (decide (r3 > 1073741824)) (R 0 2 z5) (R r3 0 z5)))
def pl71 : Plan := (.q (.q (.seq (.q (.cond (.q .leaf) .leaf)) (.q .leaf))))
theorem T71 (n1 : Int) (scale2 : Int) (w : World) (R : Int -> Int -> World -> Prop) (h : S71 n1 scale2 w R) : C71 n1 scale2 w R := by
 have e : fnT Tryz.prog ⟨FF,MAY,(fun _ _=> False)⟩ pl71 Tryz.f71 [.int .i64 n1,.int .i64 scale2] w [(.one (.int .i64)),(.one (.int .i64))] (fun s w=> R s.1 s.2 w) = S71 n1 scale2 w R := by kernel_rfl
 exact (fn_calls okF okM Tryz.func71 (by kernel_rfl) (by kernel_rfl) (e.mpr h)).mono fun _ _ ⟨s,he,hR⟩=> ⟨s.1,s.2,he,hR⟩
def S37J1 (w : World) (r8 : Int) (R : Int -> Int -> World -> Prop) (s13 : Int) (z14 : World) : Prop :=
 Ld z14 (.add ⟨w.heap.size,0,none⟩ 22) (.int .i64) fun x15=>
 Nw z14 (.cells #[.int .i64 r8,.int .i64 x15,.int .i64 s13] 2) fun z16=>
 C70 (⟨some ⟨z14.heap.size,0,none⟩,3,3⟩ : Slc) z16 fun r17 r18 z19=>
  Br (r18 != 0) (R 0 r18 z19) (Ld z19 (((⟨w.heap.size,0,none⟩ : Addr).add 22).add 2) (.int .i64) fun x20=>
   C71 r17 x20 z19 fun r21 r22 z23=>
    R r21 r22 z23)
def S37 (g1 : TyA30) (f2 : TyA34) (code3 : Int) (w : World) (R : Int -> Int -> World -> Prop) : Prop :=
 Nw w (.cells (Sig.cells LiA30 g1).toArray 31) fun z4=>
 Nw z4 (.cells (Sig.cells LiA34 f2).toArray 35) fun z5=>
 LdT z5 ⟨w.heap.size,0,none⟩ 0 LiA30 fun (x6 : TyA30)=>
 LdT z5 ⟨z4.heap.size,0,none⟩ 0 LiA34 fun (x7 : TyA34)=>
 C69 x6 x7 code3 z5 fun r8 r9 z10=>
  Br (r9 != 0) (R 0 r9 z10) (Join (S37J1 w r8 R) fun (vJ24 : Int -> World -> Prop)=>
    Br (code3 == 32) (Ld z10 (.add ⟨z4.heap.size,0,none⟩ 1) Value.bool fun (x25 : Bool)=>
     Br (!x25) (Ld z10 (((⟨w.heap.size,0,none⟩ : Addr).add 22).add 1) (.int .i64) fun x26=>
      vJ24 x26 z10) (vJ24 0 z10)) (vJ24 0 z10))
def pl37 : Plan := (.q (.q (.seq (.q (.cond (.q .leaf) .leaf)) (.q (.join [(10,(.one (.int .i64)))] [3,8] (.q (.cond (.reg .seq) .leaf)) (.q (.seq (.q (.cond (.q .leaf) .leaf)) (.q .leaf))))))))
theorem T37 (g1 : TyA30) (f2 : TyA34) (code3 : Int) (w : World) (R : Int -> Int -> World -> Prop) (h : S37 g1 f2 code3 w R) : C37 g1 f2 code3 w R := by
 have e : fnT Tryz.prog ⟨FF,MAY,(fun _ _=> False)⟩ pl37 Tryz.f37 [.agg (Sig.cells LiA30 g1).toArray,.agg (Sig.cells LiA34 f2).toArray,.int .i64 code3] w [(.one (.int .i64)),(.one (.int .i64))] (fun s w=> R s.1 s.2 w) = S37 g1 f2 code3 w R := by kernel_rfl
 exact (fn_calls okF okM Tryz.func37 (by kernel_rfl) (by kernel_rfl) (e.mpr h)).mono fun _ _ ⟨s,he,hR⟩=> ⟨s.1,s.2,he,hR⟩
def S12 (g1 : TyA30) (f2 : TyA34) (code3 : Int) (w : World) (R : Int -> Int -> World -> Prop) : Prop :=
 Nw w (.cells (Sig.cells LiA30 g1).toArray 31) fun z4=>
 Nw z4 (.cells (Sig.cells LiA34 f2).toArray 35) fun z5=>
 LdT z5 ⟨w.heap.size,0,none⟩ 0 LiA30 fun (x9 : TyA30)=>
 C18 x9 z5 fun r10 z11=>
  Br (r10 != 0) (R 0 r10 z11) (LdT z11 ⟨z4.heap.size,0,none⟩ 0 LiA34 fun (x15 : TyA34)=>
   C36 x15 z11 fun r16 z17=>
    Br (r16 != 0) (R 0 r16 z17) (LdT z17 ⟨w.heap.size,0,none⟩ 0 LiA30 fun (x18 : TyA30)=>
     LdT z17 ⟨z4.heap.size,0,none⟩ 0 LiA34 fun (x19 : TyA34)=>
     C37 x18 x19 code3 z17 fun r20 r21 z22=>
      R r20 r21 z22))
def pl12 : Plan := (.q (.seq (.q (.q (.cond (.q .leaf) .leaf))) (.seq (.q (.q (.cond (.q .leaf) .leaf))) (.q .leaf))))
theorem T12 (g1 : TyA30) (f2 : TyA34) (code3 : Int) (w : World) (R : Int -> Int -> World -> Prop) (h : S12 g1 f2 code3 w R) : C12 g1 f2 code3 w R := by
 have e : fnT Tryz.prog ⟨FF,MAY,(fun _ _=> False)⟩ pl12 Tryz.f12 [.agg (Sig.cells LiA30 g1).toArray,.agg (Sig.cells LiA34 f2).toArray,.int .i64 code3] w [(.one (.int .i64)),(.one (.int .i64))] (fun s w=> R s.1 s.2 w) = S12 g1 f2 code3 w R := by kernel_rfl
 exact (fn_calls okF okM Tryz.func12 (by kernel_rfl) (by kernel_rfl) (e.mpr h)).mono fun _ _ ⟨s,he,hR⟩=> ⟨s.1,s.2,he,hR⟩
def S45 (name1 : ByteArray) (w : World) (R : Bool -> World -> Prop) : Prop :=
 Br (name1.toList == (⟨#[66,84]⟩ : ByteArray).toList) (Br (name1.toList == (⟨#[66,84]⟩ : ByteArray).toList) (R true w) (R false w)) (Br (name1.toList == (⟨#[69,84]⟩ : ByteArray).toList) (Br (name1.toList == (⟨#[69,84]⟩ : ByteArray).toList) (R true w) (R false w)) (Br (name1.toList == (⟨#[84,100]⟩ : ByteArray).toList) (Br (name1.toList == (⟨#[84,100]⟩ : ByteArray).toList) (R true w) (R false w)) (Br (name1.toList == (⟨#[84,68]⟩ : ByteArray).toList) (Br (name1.toList == (⟨#[84,68]⟩ : ByteArray).toList) (R true w) (R false w)) (Br (name1.toList == (⟨#[84,109]⟩ : ByteArray).toList) (Br (name1.toList == (⟨#[84,109]⟩ : ByteArray).toList) (R true w) (R false w)) (Br (name1.toList == (⟨#[84,42]⟩ : ByteArray).toList) (Br (name1.toList == (⟨#[84,42]⟩ : ByteArray).toList) (R true w) (R false w)) (Br (name1.toList == (⟨#[84,106]⟩ : ByteArray).toList) (Br (name1.toList == (⟨#[84,106]⟩ : ByteArray).toList) (R true w) (R false w)) (Br (name1.toList == (⟨#[84,74]⟩ : ByteArray).toList) (Br (name1.toList == (⟨#[84,74]⟩ : ByteArray).toList) (R true w) (R false w)) (Br (name1.toList == (⟨#[39]⟩ : ByteArray).toList) (Br (name1.toList == (⟨#[39]⟩ : ByteArray).toList) (R true w) (R false w)) (Br (name1.toList == (⟨#[34]⟩ : ByteArray).toList) (R true w) (R false w))))))))))
def pl45 : Plan := (.q (.seq (.q (.block (.seq (.q (.cond .leaf (.q (.cond .leaf (.q (.cond .leaf (.q (.cond .leaf (.q (.cond .leaf (.q (.cond .leaf (.q (.cond .leaf (.q (.cond .leaf (.q (.cond .leaf (.reg .seq))))))))))))))))))) (.cond (.q .leaf) .leaf)))) (.q .leaf)))
theorem T45 (name1 : ByteArray) (w : World) (R : Bool -> World -> Prop) (h : S45 name1 w R) : C45 name1 w R := by
 have e : fnT Tryz.prog ⟨FF,MAY,(fun _ _=> False)⟩ pl45 Tryz.f45 [.string name1] w [(.one .bool)] (fun s w=> R s w) = S45 name1 w R := by kernel_rfl
 exact (fn_calls okF okM Tryz.func45 (by kernel_rfl) (by kernel_rfl) (e.mpr h)).mono fun _ _ ⟨s,he,hR⟩=> ⟨s,he,hR⟩
def S47L1 (x3 : Slc) (R : Slc -> Int -> World -> Prop) (I6 : (Slc × Int) -> World -> Prop) (s4 : Slc × Int) (z5 : World) : Prop :=
 Br (decide (s4.2 < ((x3.len : Nat) : Int))) (0 <= s4.2 /\ s4.2 < (x3.len : Nat) /\ Nn x3.p fun a7=>
  Ld z5 (a7.add ((s4.2).toNat * 6)) (.int .i64) fun x8=>
  Ld z5 ((a7.add ((s4.2).toNat * 6)).add 1) (.int .i64) fun x9=>
  Ld z5 ((a7.add ((s4.2).toNat * 6)).add 2) (.int .i64) fun x10=>
  Ld z5 ((a7.add ((s4.2).toNat * 6)).add 3) .string fun x11=>
  Ld z5 ((a7.add ((s4.2).toNat * 6)).add 4) Slc.v fun x12=>
  Ld z5 ((a7.add ((s4.2).toNat * 6)).add 5) Slc.v fun x13=>
  Nw z5 (.cells #[.int .i64 0,.int .i64 0,.int .i64 0,.string (⟨#[]⟩ : ByteArray),Slc.v ((⟨none,0,0⟩ : Slc)),Slc.v ((⟨none,0,0⟩ : Slc))] 61) fun z14=>
  St z14 ⟨z5.heap.size,0,none⟩ (.int .i64 x8) fun z15=>
  St z15 (.add ⟨z5.heap.size,0,none⟩ 1) (.int .i64 x9) fun z16=>
  St z16 (.add ⟨z5.heap.size,0,none⟩ 2) (.int .i64 x10) fun z17=>
  St z17 (.add ⟨z5.heap.size,0,none⟩ 3) (.string x11) fun z18=>
  St z18 (.add ⟨z5.heap.size,0,none⟩ 4) (Slc.v x12) fun z19=>
  St z19 (.add ⟨z5.heap.size,0,none⟩ 5) (Slc.v x13) fun z20=>
  Ld z20 ⟨z5.heap.size,0,none⟩ (.int .i64) fun x23=>
  Br (x23 != 2) (Ld z20 ⟨z5.heap.size,0,none⟩ (.int .i64) fun x24=>
   Br (x24 != 3) (I6 (s4.1,IntKind.i64.wrap (s4.2 + 1)) z20) (Ld z20 ⟨z5.heap.size,0,none⟩ (.int .i64) fun x25=>
    Ld z20 (.add ⟨z5.heap.size,0,none⟩ 1) (.int .i64) fun x26=>
    Ld z20 (.add ⟨z5.heap.size,0,none⟩ 2) (.int .i64) fun x27=>
    Ld z20 (.add ⟨z5.heap.size,0,none⟩ 3) .string fun x28=>
    Ld z20 (.add ⟨z5.heap.size,0,none⟩ 4) Slc.v fun x29=>
    Ld z20 (.add ⟨z5.heap.size,0,none⟩ 5) Slc.v fun x30=>
    C84 (x25,x26,x27,x28,x29,x30) z20 fun r31 r32 z33=>
     Br (!r32) (R (⟨none,0,0⟩ : Slc) 2 z33) (Nw z33 (.cells #[.int .i64 r31] 2) fun z34=>
      Rn Tryz.prog (Builtin.append_ #[25,25] 25 #[Slc.v s4.1,Slc.v ((⟨some ⟨z33.heap.size,0,none⟩,1,1⟩ : Slc))]) z34 Slc.v fun (x35 : Slc) z36=>
      I6 (x35,IntKind.i64.wrap (s4.2 + 1)) z36))) (Ld z20 ⟨z5.heap.size,0,none⟩ (.int .i64) fun x37=>
   Ld z20 (.add ⟨z5.heap.size,0,none⟩ 1) (.int .i64) fun x38=>
   Ld z20 (.add ⟨z5.heap.size,0,none⟩ 2) (.int .i64) fun x39=>
   Ld z20 (.add ⟨z5.heap.size,0,none⟩ 3) .string fun x40=>
   Ld z20 (.add ⟨z5.heap.size,0,none⟩ 4) Slc.v fun x41=>
   Ld z20 (.add ⟨z5.heap.size,0,none⟩ 5) Slc.v fun x42=>
   C84 (x37,x38,x39,x40,x41,x42) z20 fun r43 r44 z45=>
    Br (!r44) (R (⟨none,0,0⟩ : Slc) 2 z45) (Nw z45 (.cells #[.int .i64 r43] 2) fun z46=>
     Rn Tryz.prog (Builtin.append_ #[25,25] 25 #[Slc.v s4.1,Slc.v ((⟨some ⟨z45.heap.size,0,none⟩,1,1⟩ : Slc))]) z46 Slc.v fun (x47 : Slc) z48=>
     I6 (x47,IntKind.i64.wrap (s4.2 + 1)) z48))) (R s4.1 0 z5)
def S47 (o1 : ByteArray × Slc × ByteArray) (w : World) (R : Slc -> Int -> World -> Prop) : Prop :=
 Nw w (.cells #[.string o1.1,Slc.v o1.2.1,.string o1.2.2] 48) fun z2=>
 Ld z2 (.add ⟨w.heap.size,0,none⟩ 1) Slc.v fun x3=>
 Lp (σ := Slc × Int) (S47L1 x3 R) ((⟨none,0,0⟩ : Slc),0) z2
def pl47 : Plan := (.q (.q (.seq (.q (.block (.loop [(4,(.one .slc)),(12,(.one (.int .i64)))] [10,11] (.q (.seq (.cond .leaf .leaf) (.seq (.block (.q (.seq (.q (.cond .leaf .leaf)) (.q (.seq (.q (.cond (.q .leaf) .leaf)) (.reg .seq)))))) (.reg .seq))))))) (.q .leaf))))
theorem T47 (o1 : ByteArray × Slc × ByteArray) (w : World) (R : Slc -> Int -> World -> Prop) (h : S47 o1 w R) : C47 (o1.1,o1.2.1,o1.2.2) w R := by
 have e : fnT Tryz.prog ⟨FF,MAY,(fun _ _=> False)⟩ pl47 Tryz.f47 [.agg #[.string o1.1,Slc.v o1.2.1,.string o1.2.2]] w [(.one .slc),(.one (.int .i64))] (fun s w=> R s.1 s.2 w) = S47 o1 w R := by kernel_rfl
 exact (fn_calls okF okM Tryz.func47 (by kernel_rfl) (by kernel_rfl) (e.mpr h)).mono fun _ _ ⟨s,he,hR⟩=> ⟨s.1,s.2,he,hR⟩
def S48J1 (w : World) (z4 : World) (R : (TyA38) -> Int -> World -> Prop) (s47 : Addr × Int) (z48 : World) : Prop :=
 Br (s47.2 != 0) (LdT z48 ⟨w.heap.size,0,none⟩ 0 LiA38 fun (x51 : TyA38)=>
  StT ⟨z4.heap.size,0,none⟩ 0 LiA38 x51 z48 fun z52=>
  LdT z52 ⟨z4.heap.size,0,none⟩ 0 LiA38 fun (x53 : TyA38)=>
  R x53 s47.2 z52) (∃ vS54 : World -> Prop,vS54 z48.drew /\ LdS vS54 s47.1 (.int .i64) fun x55=>
  LdS vS54 (s47.1.add 1) (.int .i64) fun x56=>
  LdS vS54 (s47.1.add 2) (.int .i64) fun x57=>
  LdS vS54 (s47.1.add 3) (.int .i64) fun x58=>
  LdS vS54 (s47.1.add 4) (.int .i64) fun x59=>
  LdS vS54 (s47.1.add 5) (.int .i64) fun x60=>
  LdS vS54 s47.1 (.int .i64) fun x61=>
  LdS vS54 (s47.1.add 1) (.int .i64) fun x62=>
  LdS vS54 (s47.1.add 2) (.int .i64) fun x63=>
  LdS vS54 (s47.1.add 3) (.int .i64) fun x64=>
  LdS vS54 (s47.1.add 4) (.int .i64) fun x65=>
  LdS vS54 (s47.1.add 5) (.int .i64) fun x66=>
  St z48.drew (.add ⟨w.heap.size,0,none⟩ 7) (.int .i64 x55) fun z67=>
  St z67 (((⟨w.heap.size,0,none⟩ : Addr).add 7).add 1) (.int .i64 x56) fun z68=>
  St z68 (((⟨w.heap.size,0,none⟩ : Addr).add 7).add 2) (.int .i64 x57) fun z69=>
  St z69 (((⟨w.heap.size,0,none⟩ : Addr).add 7).add 3) (.int .i64 x58) fun z70=>
  St z70 (((⟨w.heap.size,0,none⟩ : Addr).add 7).add 4) (.int .i64 x59) fun z71=>
  St z71 (((⟨w.heap.size,0,none⟩ : Addr).add 7).add 5) (.int .i64 x60) fun z72=>
  vS54 z72 /\ St z72 (.add ⟨w.heap.size,0,none⟩ 1) (.int .i64 x61) fun z73=>
  St z73 (((⟨w.heap.size,0,none⟩ : Addr).add 1).add 1) (.int .i64 x62) fun z74=>
  St z74 (((⟨w.heap.size,0,none⟩ : Addr).add 1).add 2) (.int .i64 x63) fun z75=>
  St z75 (((⟨w.heap.size,0,none⟩ : Addr).add 1).add 3) (.int .i64 x64) fun z76=>
  St z76 (((⟨w.heap.size,0,none⟩ : Addr).add 1).add 4) (.int .i64 x65) fun z77=>
  St z77 (((⟨w.heap.size,0,none⟩ : Addr).add 1).add 5) (.int .i64 x66) fun z78=>
  LdT z78 ⟨w.heap.size,0,none⟩ 0 LiA38 fun (x79 : TyA38)=>
  StT ⟨z4.heap.size,0,none⟩ 0 LiA38 x79 z78 fun z80=>
  LdT z80 ⟨z4.heap.size,0,none⟩ 0 LiA38 fun (x81 : TyA38)=>
  R x81 0 z80)
def S48 (x1 : TyA38) (a2 : Int) (b3 : Int) (w : World) (R : (TyA38) -> Int -> World -> Prop) : Prop :=
 Nw w (.cells (Sig.cells LiA38 x1).toArray 39) fun z4=>
 Nw z4 (.cells #[.bool false,.int .i64 0,.int .i64 0,.int .i64 0,.int .i64 0,.int .i64 0,.int .i64 0,.int .i64 0,.int .i64 0,.int .i64 0,.int .i64 0,.int .i64 0,.int .i64 0] 39) fun z5=>
 Join (S48J1 w z4 R) fun (vJ82 : (Addr × Int) -> World -> Prop)=>
  ∃ vS83 : World -> Prop,vS83 z5.drew /\ LdS vS83 (.add ⟨w.heap.size,0,none⟩ 7) (.int .i64) fun x84=>
  LdS vS83 (((⟨w.heap.size,0,none⟩ : Addr).add 7).add 1) (.int .i64) fun x85=>
  LdS vS83 (((⟨w.heap.size,0,none⟩ : Addr).add 7).add 2) (.int .i64) fun x86=>
  LdS vS83 (((⟨w.heap.size,0,none⟩ : Addr).add 7).add 3) (.int .i64) fun x87=>
  LdS vS83 (((⟨w.heap.size,0,none⟩ : Addr).add 7).add 4) (.int .i64) fun x88=>
  LdS vS83 (((⟨w.heap.size,0,none⟩ : Addr).add 7).add 5) (.int .i64) fun x89=>
  (C20 a2 b3 z5.drew fun r90 z91=>
    vS83 z91 /\ (C85 (r90.1,r90.2.1,r90.2.2.1,r90.2.2.2.1,r90.2.2.2.2.1,r90.2.2.2.2.2) (x84,x85,x86,x87,x88,x89) z91 fun r92 r93 z94=>
      Nw z94 (.cells #[.int .i64 0,.int .i64 0,.int .i64 0,.int .i64 0,.int .i64 0,.int .i64 0] 24) fun z95=>
      St z95 ⟨z94.heap.size,0,none⟩ (.int .i64 (r92.1)) fun z96=>
      St z96 (.add ⟨z94.heap.size,0,none⟩ 1) (.int .i64 (r92.2.1)) fun z97=>
      St z97 (.add ⟨z94.heap.size,0,none⟩ 2) (.int .i64 (r92.2.2.1)) fun z98=>
      St z98 (.add ⟨z94.heap.size,0,none⟩ 3) (.int .i64 (r92.2.2.2.1)) fun z99=>
      St z99 (.add ⟨z94.heap.size,0,none⟩ 4) (.int .i64 (r92.2.2.2.2.1)) fun z100=>
      St z100 (.add ⟨z94.heap.size,0,none⟩ 5) (.int .i64 (r92.2.2.2.2.2)) fun z101=>
      vJ82 (⟨z94.heap.size,0,none⟩,r93) z101) /\
    (Nw z91 (.cells #[.int .i64 0,.int .i64 0,.int .i64 0,.int .i64 0,.int .i64 0,.int .i64 0] 24) fun z102=>
     vS83 z102 /\ C85 (r90.1,r90.2.1,r90.2.2.1,r90.2.2.2.1,r90.2.2.2.2.1,r90.2.2.2.2.2) (x84,x85,x86,x87,x88,x89) z102 fun r103 r104 z105=>
      St z105 ⟨z91.heap.size,0,none⟩ (.int .i64 (r103.1)) fun z106=>
      St z106 (.add ⟨z91.heap.size,0,none⟩ 1) (.int .i64 (r103.2.1)) fun z107=>
      St z107 (.add ⟨z91.heap.size,0,none⟩ 2) (.int .i64 (r103.2.2.1)) fun z108=>
      St z108 (.add ⟨z91.heap.size,0,none⟩ 3) (.int .i64 (r103.2.2.2.1)) fun z109=>
      St z109 (.add ⟨z91.heap.size,0,none⟩ 4) (.int .i64 (r103.2.2.2.2.1)) fun z110=>
      St z110 (.add ⟨z91.heap.size,0,none⟩ 5) (.int .i64 (r103.2.2.2.2.2)) fun z111=>
      vJ82 (⟨z91.heap.size,0,none⟩,r104) z111)) /\
  (Nw z5.drew (.cells #[.int .i64 0,.int .i64 0,.int .i64 0,.int .i64 0,.int .i64 0,.int .i64 0] 24) fun z112=>
   vS83 z112 /\ C20 a2 b3 z112 fun r113 z114=>
    vS83 z114 /\ C85 (r113.1,r113.2.1,r113.2.2.1,r113.2.2.2.1,r113.2.2.2.2.1,r113.2.2.2.2.2) (x84,x85,x86,x87,x88,x89) z114 fun r115 r116 z117=>
     St z117 ⟨z5.drew.heap.size,0,none⟩ (.int .i64 (r115.1)) fun z118=>
     St z118 (.add ⟨z5.drew.heap.size,0,none⟩ 1) (.int .i64 (r115.2.1)) fun z119=>
     St z119 (.add ⟨z5.drew.heap.size,0,none⟩ 2) (.int .i64 (r115.2.2.1)) fun z120=>
     St z120 (.add ⟨z5.drew.heap.size,0,none⟩ 3) (.int .i64 (r115.2.2.2.1)) fun z121=>
     St z121 (.add ⟨z5.drew.heap.size,0,none⟩ 4) (.int .i64 (r115.2.2.2.2.1)) fun z122=>
     St z122 (.add ⟨z5.drew.heap.size,0,none⟩ 5) (.int .i64 (r115.2.2.2.2.2)) fun z123=>
     vJ82 (⟨z5.drew.heap.size,0,none⟩,r116) z123)
def pl48 : Plan := (.q (.join [(8,(.one .addr)),(9,(.one (.int .i64)))] [3,6] (.reg (.held [5] (.take 0 (.take 1 (.take 3 (.take 4 (.effs 2 none (.effs 5 (some [9]) (.take 6 (.take 7 (.take 8 (.eff 9 (some [10]) (.eff 10 (some []) (.take 11 .done)))))) (.eff 9 none (.eff 5 (some [10]) (.take 6 (.take 7 (.take 8 (.eff 10 (some []) (.take 11 .done)))))))) (.eff 9 none (.eff 2 none (.eff 5 (some [10]) (.take 6 (.take 7 (.take 8 (.eff 10 (some []) (.take 11 .done))))))))))))))) (.seq (.q (.cond (.q .leaf) .leaf)) (.seq (.reg (.held [5] (.take 0 (.take 1 (.take 2 (.eff 3 none (.take 4 (.eff 5 (some []) .done)))))))) (.q .leaf)))))
theorem T48 (x1 : TyA38) (a2 : Int) (b3 : Int) (w : World) (R : (TyA38) -> Int -> World -> Prop) (h : S48 x1 a2 b3 w R) : C48 x1 a2 b3 w R := by
 have e : fnT Tryz.prog ⟨FF,MAY,(fun _ _=> False)⟩ pl48 Tryz.f48 [.agg (Sig.cells LiA38 x1).toArray,.int .i64 a2,.int .i64 b3] w [(.agg [.bool,(.int .i64),(.int .i64),(.int .i64),(.int .i64),(.int .i64),(.int .i64),(.int .i64),(.int .i64),(.int .i64),(.int .i64),(.int .i64),(.int .i64)]),(.one (.int .i64))] (fun s w=> R s.1 s.2 w) = S48 x1 a2 b3 w R := by kernel_rfl
 exact (fn_calls okF okM Tryz.func48 (by kernel_rfl) (by kernel_rfl) (e.mpr h)).mono fun _ _ ⟨s,he,hR⟩=> ⟨s.1,s.2,he,hR⟩
def S118L1 (s2 : ByteArray) (R : Slc -> Int -> World -> Prop) (I14 : (Slc × Int) -> World -> Prop) (s12 : Slc × Int) (z13 : World) : Prop :=
 Br (decide (s12.2 < (((s2).size : Nat) : Int))) (0 <= s12.2 /\ s12.2 < ((s2).size : Nat) /\ Nw z13 (.cells #[.int .i64 (IntKind.i64.wrap (bAt s2 s12.2))] 3) fun z15=>
  Rn Tryz.prog (Builtin.append_ #[132,132] 132 #[Slc.v s12.1,Slc.v ((⟨some ⟨z13.heap.size,0,none⟩,1,1⟩ : Slc))]) z15 Slc.v fun (x16 : Slc) z17=>
  I14 (x16,IntKind.i64.wrap (s12.2 + 1)) z17) (R s12.1 0 z13)
def S118L2 (s2 : ByteArray) (R : Slc -> Int -> World -> Prop) (I20 : (Slc × Int) -> World -> Prop) (s18 : Slc × Int) (z19 : World) : Prop :=
 Br (decide ((IntKind.i64.wrap (s18.2 + 1)) < (((s2).size : Nat) : Int))) (0 <= s18.2 /\ s18.2 < ((s2).size : Nat) /\ 0 <= (IntKind.i64.wrap (s18.2 + 1)) /\ (IntKind.i64.wrap (s18.2 + 1)) < ((s2).size : Nat) /\ Nw z19.drew (.cells #[.int .i64 (IntKind.i64.wrap ((IntKind.i64.wrap (256 * (IntKind.i64.wrap (bAt s2 s18.2)))) + (IntKind.i64.wrap (bAt s2 (IntKind.i64.wrap (s18.2 + 1))))))] 3) fun z21=>
  Rn Tryz.prog (Builtin.append_ #[132,132] 132 #[Slc.v s18.1,Slc.v ((⟨some ⟨z19.drew.heap.size,0,none⟩,1,1⟩ : Slc))]) z21 Slc.v fun (x22 : Slc) z23=>
  I20 (x22,IntKind.i64.wrap (s18.2 + 2)) z23) (R s18.1 0 z19)
def S118 (f1 : TyA34) (s2 : ByteArray) (w : World) (R : Slc -> Int -> World -> Prop) : Prop :=
 Nw w (.cells (Sig.cells LiA34 f1).toArray 35) fun z3=>
 Ld z3 (.add ⟨w.heap.size,0,none⟩ 1) Value.bool fun (x11 : Bool)=>
 Br (!x11) (Lp (σ := Slc × Int) (S118L1 s2 R) ((⟨none,0,0⟩ : Slc),0) z3) (Br ((Int.tmod (((s2).size : Nat) : Int) 2) != 0) (R (⟨none,0,0⟩ : Slc) 3 z3) (Lp (σ := Slc × Int) (S118L2 s2 R) ((⟨none,0,0⟩ : Slc),0) z3))
def pl118 : Plan := (.q (.q (.seq (.q (.cond (.seq (.q (.block (.loop [(6,(.one .slc)),(7,(.one (.int .i64)))] [1] (.seq (.q (.cond .leaf .leaf)) (.seq (.block (.reg .seq)) (.reg .seq)))))) (.q .leaf)) .leaf)) (.seq (.q (.cond (.q .leaf) .leaf)) (.seq (.q (.block (.loop [(6,(.one .slc)),(8,(.one (.int .i64)))] [1] (.seq (.q (.cond .leaf .leaf)) (.seq (.block (.reg (.held [12] (.take 0 (.take 1 (.take 2 (.take 3 (.take 4 (.take 5 (.take 6 (.take 7 (.take 8 (.take 9 (.take 10 (.take 11 (.eff 12 (some [13]) (.eff 13 (some []) (.take 14 .done)))))))))))))))))) (.reg .seq)))))) (.q .leaf))))))
theorem T118 (f1 : TyA34) (s2 : ByteArray) (w : World) (R : Slc -> Int -> World -> Prop) (h : S118 f1 s2 w R) : C118 f1 s2 w R := by
 have e : fnT Tryz.prog ⟨FF,MAY,(fun _ _=> False)⟩ pl118 Tryz.f118 [.agg (Sig.cells LiA34 f1).toArray,.string s2] w [(.one .slc),(.one (.int .i64))] (fun s w=> R s.1 s.2 w) = S118 f1 s2 w R := by kernel_rfl
 exact (fn_calls okF okM Tryz.func118 (by kernel_rfl) (by kernel_rfl) (e.mpr h)).mono fun _ _ ⟨s,he,hR⟩=> ⟨s.1,s.2,he,hR⟩
def S148L1 (l1 : Slc) (code2 : Int) (R : ByteArray -> Bool -> World -> Prop) (I5 : Int -> World -> Prop) (s3 : Int) (z4 : World) : Prop :=
 Br (decide (s3 < ((l1.len : Nat) : Int))) (0 <= s3 /\ s3 < (l1.len : Nat) /\ Nn l1.p fun a6=>
  Ld z4 (a6.add ((s3).toNat * 2)) (.int .i64) fun x7=>
  Br (x7 == code2) (0 <= s3 /\ s3 < (l1.len : Nat) /\ Nn l1.p fun a8=>
   Ld z4 ((a8.add ((s3).toNat * 2)).add 1) .string fun x9=>
   R x9 true z4) (I5 (IntKind.i64.wrap (s3 + 1)) z4)) (R (⟨#[]⟩ : ByteArray) false z4)
def S148 (l1 : Slc) (code2 : Int) (w : World) (R : ByteArray -> Bool -> World -> Prop) : Prop :=
 Lp (σ := Int) (S148L1 l1 code2 R) 0 w
def pl148 : Plan := (.q (.seq (.q (.block (.loop [(6,(.one (.int .i64)))] [0,1] (.seq (.q (.cond .leaf .leaf)) (.seq (.block (.q (.cond (.q .leaf) .leaf))) (.reg .seq)))))) (.q .leaf)))
theorem T148 (l1 : Slc) (code2 : Int) (w : World) (R : ByteArray -> Bool -> World -> Prop) (h : S148 l1 code2 w R) : C148 l1 code2 w R := by
 have e : fnT Tryz.prog ⟨FF,MAY,(fun _ _=> False)⟩ pl148 Tryz.f148 [Slc.v l1,.int .i64 code2] w [(.one .str),(.one .bool)] (fun s w=> R s.1 s.2 w) = S148 l1 code2 w R := by kernel_rfl
 exact (fn_calls okF okM Tryz.func148 (by kernel_rfl) (by kernel_rfl) (e.mpr h)).mono fun _ _ ⟨s,he,hR⟩=> ⟨s.1,s.2,he,hR⟩
def S149L1 (x1 : Slc) (z89 : World) (R : Slc -> World -> Prop) (I101 : Int -> World -> Prop) (s99 : Int) (z100 : World) : Prop :=
 Br (decide (s99 < 4)) (0 <= s99 /\ s99 < (4 : Nat) /\ Ld z100 ((⟨z89.heap.size,0,none⟩ : Addr).add ((s99).toNat * 1)) .string fun x102=>
  0 <= (IntKind.i64.wrap (123 + s99)) /\ (IntKind.i64.wrap (123 + s99)) < (x1.len : Nat) /\ Nn x1.p fun a103=>
  St z100 (a103.add ((IntKind.i64.wrap (123 + s99)).toNat * 1)) (.string x102) fun z104=>
  I101 (IntKind.i64.wrap (s99 + 1)) z104) (R x1 z100)
def S149L2 (x1 : Slc) (z63 : World) (R : Slc -> World -> Prop) (I90 : Int -> World -> Prop) (s88 : Int) (z89 : World) : Prop :=
 Br (decide (s88 < 6)) (0 <= s88 /\ s88 < (6 : Nat) /\ Ld z89 ((⟨z63.heap.size,0,none⟩ : Addr).add ((s88).toNat * 1)) .string fun x91=>
  0 <= (IntKind.i64.wrap (91 + s88)) /\ (IntKind.i64.wrap (91 + s88)) < (x1.len : Nat) /\ Nn x1.p fun a92=>
  St z89 (a92.add ((IntKind.i64.wrap (91 + s88)).toNat * 1)) (.string x91) fun z93=>
  I90 (IntKind.i64.wrap (s88 + 1)) z93) (Nw z89 (.cells #[.string (⟨#[]⟩ : ByteArray),.string (⟨#[]⟩ : ByteArray),.string (⟨#[]⟩ : ByteArray),.string (⟨#[]⟩ : ByteArray)] 208) fun z94=>
  St z94 ⟨z89.heap.size,0,none⟩ (.string ((⟨#[98,114,97,99,101,108,101,102,116]⟩ : ByteArray))) fun z95=>
  St z95 (.add ⟨z89.heap.size,0,none⟩ 1) (.string ((⟨#[98,97,114]⟩ : ByteArray))) fun z96=>
  St z96 (.add ⟨z89.heap.size,0,none⟩ 2) (.string ((⟨#[98,114,97,99,101,114,105,103,104,116]⟩ : ByteArray))) fun z97=>
  St z97 (.add ⟨z89.heap.size,0,none⟩ 3) (.string ((⟨#[97,115,99,105,105,116,105,108,100,101]⟩ : ByteArray))) fun z98=>
  Lp (σ := Int) (S149L1 x1 z89 R) 0 z98)
def S149L3 (x1 : Slc) (R : Slc -> World -> Prop) (I64 : Int -> World -> Prop) (s62 : Int) (z63 : World) : Prop :=
 Br (decide (s62 <= 90)) (Nw z63 (.cells #[.int .u8 (IntKind.u8.wrap s62)] 5) fun z65=>
  Rn Tryz.prog (convert 169 9 (Slc.v ((⟨some ⟨z63.heap.size,0,none⟩,1,1⟩ : Slc)))) z65 Value.string fun (x66 : ByteArray) z67=>
  0 <= s62 /\ s62 < (x1.len : Nat) /\ Nn x1.p fun a68=>
  St z67 (a68.add ((s62).toNat * 1)) (.string x66) fun z69=>
  Nw z69 (.cells #[.int .u8 (IntKind.u8.wrap (IntKind.i32.wrap (s62 + 32)))] 5) fun z70=>
  Rn Tryz.prog (convert 169 9 (Slc.v ((⟨some ⟨z69.heap.size,0,none⟩,1,1⟩ : Slc)))) z70 Value.string fun (x71 : ByteArray) z72=>
  0 <= (IntKind.i32.wrap (s62 + 32)) /\ (IntKind.i32.wrap (s62 + 32)) < (x1.len : Nat) /\ Nn x1.p fun a73=>
  St z72 (a73.add ((IntKind.i32.wrap (s62 + 32)).toNat * 1)) (.string x71) fun z74=>
  I64 (IntKind.i32.wrap (s62 + 1)) z74) (Nw z63 (.cells #[.string (⟨#[]⟩ : ByteArray),.string (⟨#[]⟩ : ByteArray),.string (⟨#[]⟩ : ByteArray),.string (⟨#[]⟩ : ByteArray),.string (⟨#[]⟩ : ByteArray),.string (⟨#[]⟩ : ByteArray)] 207) fun z75=>
  St z75 ⟨z63.heap.size,0,none⟩ (.string ((⟨#[98,114,97,99,107,101,116,108,101,102,116]⟩ : ByteArray))) fun z76=>
  St z76 (.add ⟨z63.heap.size,0,none⟩ 1) (.string ((⟨#[98,97,99,107,115,108,97,115,104]⟩ : ByteArray))) fun z77=>
  St z77 (.add ⟨z63.heap.size,0,none⟩ 2) (.string ((⟨#[98,114,97,99,107,101,116,114,105,103,104,116]⟩ : ByteArray))) fun z78=>
  St z78 (.add ⟨z63.heap.size,0,none⟩ 3) (.string ((⟨#[97,115,99,105,105,99,105,114,99,117,109]⟩ : ByteArray))) fun z79=>
  St z79 (.add ⟨z63.heap.size,0,none⟩ 4) (.string ((⟨#[117,110,100,101,114,115,99,111,114,101]⟩ : ByteArray))) fun z80=>
  St z80 (.add ⟨z63.heap.size,0,none⟩ 5) (.string ((⟨#[103,114,97,118,101]⟩ : ByteArray))) fun z81=>
  Lp (σ := Int) (S149L2 x1 z63 R) 0 z81)
def S149L4 (x1 : Slc) (z2 : World) (R : Slc -> World -> Prop) (I45 : Int -> World -> Prop) (s43 : Int) (z44 : World) : Prop :=
 Br (decide (s43 < 33)) (0 <= s43 /\ s43 < (33 : Nat) /\ Ld z44 ((⟨z2.heap.size,0,none⟩ : Addr).add ((s43).toNat * 1)) .string fun x46=>
  0 <= (IntKind.i64.wrap (32 + s43)) /\ (IntKind.i64.wrap (32 + s43)) < (x1.len : Nat) /\ Nn x1.p fun a47=>
  St z44 (a47.add ((IntKind.i64.wrap (32 + s43)).toNat * 1)) (.string x46) fun z48=>
  I45 (IntKind.i64.wrap (s43 + 1)) z48) (Lp (σ := Int) (S149L3 x1 R) 65 z44)
def S149 (w : World) (R : Slc -> World -> Prop) : Prop :=
 Rn Tryz.prog (Instr.makeSlice 32 (.int .i64 256) (.int .i64 256)) w Slc.v fun (x1 : Slc) z2=>
 Nw z2 (.cells #[.string (⟨#[]⟩ : ByteArray),.string (⟨#[]⟩ : ByteArray),.string (⟨#[]⟩ : ByteArray),.string (⟨#[]⟩ : ByteArray),.string (⟨#[]⟩ : ByteArray),.string (⟨#[]⟩ : ByteArray),.string (⟨#[]⟩ : ByteArray),.string (⟨#[]⟩ : ByteArray),.string (⟨#[]⟩ : ByteArray),.string (⟨#[]⟩ : ByteArray),.string (⟨#[]⟩ : ByteArray),.string (⟨#[]⟩ : ByteArray),.string (⟨#[]⟩ : ByteArray),.string (⟨#[]⟩ : ByteArray),.string (⟨#[]⟩ : ByteArray),.string (⟨#[]⟩ : ByteArray),.string (⟨#[]⟩ : ByteArray),.string (⟨#[]⟩ : ByteArray),.string (⟨#[]⟩ : ByteArray),.string (⟨#[]⟩ : ByteArray),.string (⟨#[]⟩ : ByteArray),.string (⟨#[]⟩ : ByteArray),.string (⟨#[]⟩ : ByteArray),.string (⟨#[]⟩ : ByteArray),.string (⟨#[]⟩ : ByteArray),.string (⟨#[]⟩ : ByteArray),.string (⟨#[]⟩ : ByteArray),.string (⟨#[]⟩ : ByteArray),.string (⟨#[]⟩ : ByteArray),.string (⟨#[]⟩ : ByteArray),.string (⟨#[]⟩ : ByteArray),.string (⟨#[]⟩ : ByteArray),.string (⟨#[]⟩ : ByteArray)] 206) fun z3=>
 St z3 ⟨z2.heap.size,0,none⟩ (.string ((⟨#[115,112,97,99,101]⟩ : ByteArray))) fun z4=>
 St z4 (.add ⟨z2.heap.size,0,none⟩ 1) (.string ((⟨#[101,120,99,108,97,109]⟩ : ByteArray))) fun z5=>
 St z5 (.add ⟨z2.heap.size,0,none⟩ 2) (.string ((⟨#[113,117,111,116,101,100,98,108]⟩ : ByteArray))) fun z6=>
 St z6 (.add ⟨z2.heap.size,0,none⟩ 3) (.string ((⟨#[110,117,109,98,101,114,115,105,103,110]⟩ : ByteArray))) fun z7=>
 St z7 (.add ⟨z2.heap.size,0,none⟩ 4) (.string ((⟨#[100,111,108,108,97,114]⟩ : ByteArray))) fun z8=>
 St z8 (.add ⟨z2.heap.size,0,none⟩ 5) (.string ((⟨#[112,101,114,99,101,110,116]⟩ : ByteArray))) fun z9=>
 St z9 (.add ⟨z2.heap.size,0,none⟩ 6) (.string ((⟨#[97,109,112,101,114,115,97,110,100]⟩ : ByteArray))) fun z10=>
 St z10 (.add ⟨z2.heap.size,0,none⟩ 7) (.string ((⟨#[113,117,111,116,101,115,105,110,103,108,101]⟩ : ByteArray))) fun z11=>
 St z11 (.add ⟨z2.heap.size,0,none⟩ 8) (.string ((⟨#[112,97,114,101,110,108,101,102,116]⟩ : ByteArray))) fun z12=>
 St z12 (.add ⟨z2.heap.size,0,none⟩ 9) (.string ((⟨#[112,97,114,101,110,114,105,103,104,116]⟩ : ByteArray))) fun z13=>
 St z13 (.add ⟨z2.heap.size,0,none⟩ 10) (.string ((⟨#[97,115,116,101,114,105,115,107]⟩ : ByteArray))) fun z14=>
 St z14 (.add ⟨z2.heap.size,0,none⟩ 11) (.string ((⟨#[112,108,117,115]⟩ : ByteArray))) fun z15=>
 St z15 (.add ⟨z2.heap.size,0,none⟩ 12) (.string ((⟨#[99,111,109,109,97]⟩ : ByteArray))) fun z16=>
 St z16 (.add ⟨z2.heap.size,0,none⟩ 13) (.string ((⟨#[104,121,112,104,101,110]⟩ : ByteArray))) fun z17=>
 St z17 (.add ⟨z2.heap.size,0,none⟩ 14) (.string ((⟨#[112,101,114,105,111,100]⟩ : ByteArray))) fun z18=>
 St z18 (.add ⟨z2.heap.size,0,none⟩ 15) (.string ((⟨#[115,108,97,115,104]⟩ : ByteArray))) fun z19=>
 St z19 (.add ⟨z2.heap.size,0,none⟩ 16) (.string ((⟨#[122,101,114,111]⟩ : ByteArray))) fun z20=>
 St z20 (.add ⟨z2.heap.size,0,none⟩ 17) (.string ((⟨#[111,110,101]⟩ : ByteArray))) fun z21=>
 St z21 (.add ⟨z2.heap.size,0,none⟩ 18) (.string ((⟨#[116,119,111]⟩ : ByteArray))) fun z22=>
 St z22 (.add ⟨z2.heap.size,0,none⟩ 19) (.string ((⟨#[116,104,114,101,101]⟩ : ByteArray))) fun z23=>
 St z23 (.add ⟨z2.heap.size,0,none⟩ 20) (.string ((⟨#[102,111,117,114]⟩ : ByteArray))) fun z24=>
 St z24 (.add ⟨z2.heap.size,0,none⟩ 21) (.string ((⟨#[102,105,118,101]⟩ : ByteArray))) fun z25=>
 St z25 (.add ⟨z2.heap.size,0,none⟩ 22) (.string ((⟨#[115,105,120]⟩ : ByteArray))) fun z26=>
 St z26 (.add ⟨z2.heap.size,0,none⟩ 23) (.string ((⟨#[115,101,118,101,110]⟩ : ByteArray))) fun z27=>
 St z27 (.add ⟨z2.heap.size,0,none⟩ 24) (.string ((⟨#[101,105,103,104,116]⟩ : ByteArray))) fun z28=>
 St z28 (.add ⟨z2.heap.size,0,none⟩ 25) (.string ((⟨#[110,105,110,101]⟩ : ByteArray))) fun z29=>
 St z29 (.add ⟨z2.heap.size,0,none⟩ 26) (.string ((⟨#[99,111,108,111,110]⟩ : ByteArray))) fun z30=>
 St z30 (.add ⟨z2.heap.size,0,none⟩ 27) (.string ((⟨#[115,101,109,105,99,111,108,111,110]⟩ : ByteArray))) fun z31=>
 St z31 (.add ⟨z2.heap.size,0,none⟩ 28) (.string ((⟨#[108,101,115,115]⟩ : ByteArray))) fun z32=>
 St z32 (.add ⟨z2.heap.size,0,none⟩ 29) (.string ((⟨#[101,113,117,97,108]⟩ : ByteArray))) fun z33=>
 St z33 (.add ⟨z2.heap.size,0,none⟩ 30) (.string ((⟨#[103,114,101,97,116,101,114]⟩ : ByteArray))) fun z34=>
 St z34 (.add ⟨z2.heap.size,0,none⟩ 31) (.string ((⟨#[113,117,101,115,116,105,111,110]⟩ : ByteArray))) fun z35=>
 St z35 (.add ⟨z2.heap.size,0,none⟩ 32) (.string ((⟨#[97,116]⟩ : ByteArray))) fun z36=>
 Lp (σ := Int) (S149L4 x1 z2 R) 0 z36
def pl149 : Plan := (.q (.q (.q (.seq (.q (.block (.loop [(3,(.one (.int .i64)))] [1,2] (.seq (.q (.cond .leaf .leaf)) (.seq (.block (.reg .seq)) (.reg .seq)))))) (.seq (.q (.block (.loop [(4,(.one (.int .i32)))] [1] (.seq (.q (.cond .leaf .leaf)) (.seq (.block (.q (.reg .seq))) (.reg .seq)))))) (.q (.seq (.q (.block (.loop [(6,(.one (.int .i64)))] [1,5] (.seq (.q (.cond .leaf .leaf)) (.seq (.block (.reg .seq)) (.reg .seq)))))) (.q (.seq (.q (.block (.loop [(8,(.one (.int .i64)))] [1,7] (.seq (.q (.cond .leaf .leaf)) (.seq (.block (.reg .seq)) (.reg .seq)))))) (.q .leaf))))))))))
theorem T149 (w : World) (R : Slc -> World -> Prop) (h : S149 w R) : C149 w R := by
 have e : fnT Tryz.prog ⟨FF,MAY,(fun _ _=> False)⟩ pl149 Tryz.f149 [] w [(.one .slc)] (fun s w=> R s w) = S149 w R := by kernel_rfl
 exact (fn_calls okF okM Tryz.func149 (by kernel_rfl) (by kernel_rfl) (e.mpr h)).mono fun _ _ ⟨s,he,hR⟩=> ⟨s,he,hR⟩
def S158 (c1 : Int) (w : World) (R : Int -> World -> Prop) : Prop :=
 Br (decide (c1 >= 48)) (Br (decide (c1 <= 57)) (R (IntKind.i64.wrap ((IntKind.i64.wrap c1) - 48)) w) (Br (decide (c1 >= 65)) (Br (decide (c1 <= 70)) (R (IntKind.i64.wrap ((IntKind.i64.wrap ((IntKind.i64.wrap c1) - 65)) + 10)) w) (R (-1) w)) (R (-1) w))) (Br (decide (c1 >= 65)) (Br (decide (c1 <= 70)) (R (IntKind.i64.wrap ((IntKind.i64.wrap ((IntKind.i64.wrap c1) - 65)) + 10)) w) (R (-1) w)) (R (-1) w))
def pl158 : Plan := (.q (.seq (.q (.cond (.q .leaf) .leaf)) (.seq (.q (.cond (.q .leaf) .leaf)) (.q .leaf))))
theorem T158 (c1 : Int) (w : World) (R : Int -> World -> Prop) (h : S158 c1 w R) : C158 c1 w R := by
 have e : fnT Tryz.prog ⟨FF,MAY,(fun _ _=> False)⟩ pl158 Tryz.f158 [.int .u8 c1] w [(.one (.int .i64))] (fun s w=> R s w) = S158 c1 w R := by kernel_rfl
 exact (fn_calls okF okM Tryz.func158 (by kernel_rfl) (by kernel_rfl) (e.mpr h)).mono fun _ _ ⟨s,he,hR⟩=> ⟨s,he,hR⟩
def S150L1 (name1 : ByteArray) (R : ByteArray -> World -> Prop) (I27 : (Int × Int) -> World -> Prop) (s25 : Int × Int) (z26 : World) : Prop :=
 Br (decide (s25.2 < 7)) (0 <= s25.2 /\ s25.2 < ((name1).size : Nat) /\ C158 (bAt name1 s25.2) z26 fun r28 z29=>
   Br (decide (r28 < 0)) (R (⟨#[]⟩ : ByteArray) z29) (I27 (IntKind.i64.wrap ((IntKind.i64.wrap (16 * s25.1)) + r28),IntKind.i64.wrap (s25.2 + 1)) z29)) (Br (s25.1 == 0) (R (⟨#[]⟩ : ByteArray) z26) (Br (decide (s25.1 >= 55296)) (Br (decide (s25.1 <= 57343)) (R (⟨#[]⟩ : ByteArray) z26) (R (Utf8.encode (IntKind.i32.wrap s25.1)) z26)) (R (Utf8.encode (IntKind.i32.wrap s25.1)) z26)))
def S150L2 (name1 : ByteArray) (r2 : Slc) (R : ByteArray -> World -> Prop) (I14 : Int -> World -> Prop) (s12 : Int) (z13 : World) : Prop :=
 Br (decide (s12 < 256)) (0 <= s12 /\ s12 < (r2.len : Nat) /\ Nn r2.p fun a15=>
  Ld z13 (a15.add ((s12).toNat * 1)) .string fun x16=>
  Br (x16.toList == name1.toList) (Br (!(name1.toList == (⟨#[]⟩ : ByteArray).toList)) (Nw z13 (.cells #[.int .u8 (IntKind.u8.wrap s12)] 5) fun z17=>
    Rn Tryz.prog (convert 169 9 (Slc.v ((⟨some ⟨z13.heap.size,0,none⟩,1,1⟩ : Slc)))) z17 Value.string fun (x18 : ByteArray) z19=>
    R x18 z19) (I14 (IntKind.i64.wrap (s12 + 1)) z13)) (I14 (IntKind.i64.wrap (s12 + 1)) z13)) (Br ((((name1).size : Nat) : Int) != 7) (R (⟨#[]⟩ : ByteArray) z13) (0 <= (3 : Int) /\ (3 : Int) <= (((name1).size : Nat) : Int) /\ Br (!((name1.extract 0 (((3 : Int)).toNat)).toList == (⟨#[117,110,105]⟩ : ByteArray).toList)) (R (⟨#[]⟩ : ByteArray) z13) (Lp (σ := Int × Int) (S150L1 name1 R) (0,3) z13)))
def S150 (name1 : ByteArray) (w : World) (R : ByteArray -> World -> Prop) : Prop :=
 C149 w fun r2 z3=>
  Lp (σ := Int) (S150L2 name1 r2 R) 0 z3
def pl150 : Plan := (.q (.q (.seq (.q (.block (.loop [(4,(.one (.int .i64)))] [0,3] (.seq (.q (.cond .leaf .leaf)) (.seq (.block (.q (.cond (.q .leaf) .leaf))) (.reg .seq)))))) (.seq (.q (.cond (.q .leaf) .leaf)) (.q (.seq (.q (.block (.loop [(5,(.one (.int .i64))),(6,(.one (.int .i64)))] [0] (.seq (.q (.cond .leaf .leaf)) (.seq (.block (.q (.seq (.q (.cond (.q .leaf) .leaf)) (.reg .seq)))) (.reg .seq)))))) (.seq (.q (.cond (.q .leaf) .leaf)) (.q .leaf))))))))
theorem T150 (name1 : ByteArray) (w : World) (R : ByteArray -> World -> Prop) (h : S150 name1 w R) : C150 name1 w R := by
 have e : fnT Tryz.prog ⟨FF,MAY,(fun _ _=> False)⟩ pl150 Tryz.f150 [.string name1] w [(.one .str)] (fun s w=> R s w) = S150 name1 w R := by kernel_rfl
 exact (fn_calls okF okM Tryz.func150 (by kernel_rfl) (by kernel_rfl) (e.mpr h)).mono fun _ _ ⟨s,he,hR⟩=> ⟨s,he,hR⟩
def S138 (f1 : TyA34) (code2 : Int) (w : World) (R : ByteArray -> World -> Prop) : Prop :=
 Nw w (.cells (Sig.cells LiA34 f1).toArray 35) fun z3=>
 Ld z3 (.add ⟨w.heap.size,0,none⟩ 6) Slc.v fun x8=>
 C148 x8 code2 z3 fun r9 r10 z11=>
  Br r10 (R r9 z11) (Ld z11 (.add ⟨w.heap.size,0,none⟩ 5) Slc.v fun x12=>
   Br (((x12.len : Nat) : Int) == 0) (C149 z11 fun r15 z16=>
     Ld z16 (.add ⟨w.heap.size,0,none⟩ 1) Value.bool fun (x18 : Bool)=>
     Br x18 (R (⟨#[]⟩ : ByteArray) z16) (Br (decide (code2 < 0)) (R (⟨#[]⟩ : ByteArray) z16) (Br (decide (code2 >= ((r15.len : Nat) : Int))) (R (⟨#[]⟩ : ByteArray) z16) (0 <= code2 /\ code2 < (r15.len : Nat) /\ Nn r15.p fun a19=>
        Ld z16 (a19.add ((code2).toNat * 1)) .string fun x20=>
        C150 x20 z16 fun r21 z22=>
         R r21 z22)))) (Ld z11 (.add ⟨w.heap.size,0,none⟩ 1) Value.bool fun (x23 : Bool)=>
    Br x23 (R (⟨#[]⟩ : ByteArray) z11) (Br (decide (code2 < 0)) (R (⟨#[]⟩ : ByteArray) z11) (Br (decide (code2 >= ((x12.len : Nat) : Int))) (R (⟨#[]⟩ : ByteArray) z11) (0 <= code2 /\ code2 < (x12.len : Nat) /\ Nn x12.p fun a24=>
       Ld z11 (a24.add ((code2).toNat * 1)) .string fun x25=>
       C150 x25 z11 fun r26 z27=>
        R r26 z27)))))
def pl138 : Plan := (.q (.seq (.q (.q (.cond (.q .leaf) .leaf))) (.q (.seq (.q (.cond (.reg .seq) .leaf)) (.seq (.q (.cond (.q .leaf) .leaf)) (.q .leaf))))))
theorem T138 (f1 : TyA34) (code2 : Int) (w : World) (R : ByteArray -> World -> Prop) (h : S138 f1 code2 w R) : C138 f1 code2 w R := by
 have e : fnT Tryz.prog ⟨FF,MAY,(fun _ _=> False)⟩ pl138 Tryz.f138 [.agg (Sig.cells LiA34 f1).toArray,.int .i64 code2] w [(.one .str)] (fun s w=> R s w) = S138 f1 code2 w R := by kernel_rfl
 exact (fn_calls okF okM Tryz.func138 (by kernel_rfl) (by kernel_rfl) (e.mpr h)).mono fun _ _ ⟨s,he,hR⟩=> ⟨s,he,hR⟩
def S119J1 (w : World) (code4 : Int) (z5 : World) (z6 : World) (z7 : World) (z8 : World) (z155 : World) (z203 : World) (r249 : Int) (R : (TyA69) -> (Int × Int × Int × Int × Int × Int) -> Int -> World -> Prop) (s368 : Addr × Int) (z369 : World) : Prop :=
 Br (s368.2 != 0) (∃ vS384 : World -> Prop,vS384 z369.drew /\ LdS vS384 ⟨z5.heap.size,0,none⟩ (.int .i64) fun x385=>
  LdS vS384 (.add ⟨z5.heap.size,0,none⟩ 1) (.int .i64) fun x386=>
  LdS vS384 (.add ⟨z5.heap.size,0,none⟩ 2) (.int .i64) fun x387=>
  LdS vS384 (.add ⟨z5.heap.size,0,none⟩ 3) (.int .i64) fun x388=>
  LdS vS384 (.add ⟨z5.heap.size,0,none⟩ 4) (.int .i64) fun x389=>
  LdS vS384 (.add ⟨z5.heap.size,0,none⟩ 5) (.int .i64) fun x390=>
  StT ⟨z7.heap.size,0,none⟩ 0 LiA69 ((0,(⟨#[]⟩ : ByteArray),0,0,0,0,0,(⟨#[]⟩ : ByteArray),0) : TyA69) z369.drew fun z391=>
  vS384 z391 /\ St z391 ⟨z8.heap.size,0,none⟩ (.int .i64 x385) fun z392=>
  St z392 (.add ⟨z8.heap.size,0,none⟩ 1) (.int .i64 x386) fun z393=>
  St z393 (.add ⟨z8.heap.size,0,none⟩ 2) (.int .i64 x387) fun z394=>
  St z394 (.add ⟨z8.heap.size,0,none⟩ 3) (.int .i64 x388) fun z395=>
  St z395 (.add ⟨z8.heap.size,0,none⟩ 4) (.int .i64 x389) fun z396=>
  St z396 (.add ⟨z8.heap.size,0,none⟩ 5) (.int .i64 x390) fun z397=>
  LdT z397 ⟨z7.heap.size,0,none⟩ 0 LiA69 fun (x398 : TyA69)=>
  Ld z397 ⟨z8.heap.size,0,none⟩ (.int .i64) fun x399=>
  Ld z397 (.add ⟨z8.heap.size,0,none⟩ 1) (.int .i64) fun x400=>
  Ld z397 (.add ⟨z8.heap.size,0,none⟩ 2) (.int .i64) fun x401=>
  Ld z397 (.add ⟨z8.heap.size,0,none⟩ 3) (.int .i64) fun x402=>
  Ld z397 (.add ⟨z8.heap.size,0,none⟩ 4) (.int .i64) fun x403=>
  Ld z397 (.add ⟨z8.heap.size,0,none⟩ 5) (.int .i64) fun x404=>
  R x398 (x399,x400,x401,x402,x403,x404) s368.2 z397) (∃ vS405 : World -> Prop,vS405 z369.drew /\ LdST vS405 ⟨z6.heap.size,0,none⟩ 0 LiA34 fun (x406 : TyA34)=>
  LdS vS405 ⟨z155.heap.size,0,none⟩ (.int .i64) fun x407=>
  LdS vS405 (.add ⟨z155.heap.size,0,none⟩ 1) (.int .i64) fun x408=>
  LdS vS405 ⟨z203.heap.size,0,none⟩ (.int .i64) fun x409=>
  LdS vS405 (.add ⟨z203.heap.size,0,none⟩ 1) (.int .i64) fun x410=>
  LdS vS405 (((⟨w.heap.size,0,none⟩ : Addr).add 22).add 6) .string fun x411=>
  LdS vS405 (((⟨w.heap.size,0,none⟩ : Addr).add 22).add 7) (.int .i64) fun x412=>
  LdS vS405 s368.1 (.int .i64) fun x413=>
  LdS vS405 (s368.1.add 1) (.int .i64) fun x414=>
  LdS vS405 (s368.1.add 2) (.int .i64) fun x415=>
  LdS vS405 (s368.1.add 3) (.int .i64) fun x416=>
  LdS vS405 (s368.1.add 4) (.int .i64) fun x417=>
  LdS vS405 (s368.1.add 5) (.int .i64) fun x418=>
  C138 x406 code4 z369.drew fun r419 z420=>
   vS405 z420 /\ StT ⟨z7.heap.size,0,none⟩ 0 LiA69 ((code4,r419,x407,x408,x409,x410,r249,x411,x412) : TyA69) z420 fun z421=>
   vS405 z421 /\ St z421 ⟨z8.heap.size,0,none⟩ (.int .i64 x413) fun z422=>
   St z422 (.add ⟨z8.heap.size,0,none⟩ 1) (.int .i64 x414) fun z423=>
   St z423 (.add ⟨z8.heap.size,0,none⟩ 2) (.int .i64 x415) fun z424=>
   St z424 (.add ⟨z8.heap.size,0,none⟩ 3) (.int .i64 x416) fun z425=>
   St z425 (.add ⟨z8.heap.size,0,none⟩ 4) (.int .i64 x417) fun z426=>
   St z426 (.add ⟨z8.heap.size,0,none⟩ 5) (.int .i64 x418) fun z427=>
   LdT z427 ⟨z7.heap.size,0,none⟩ 0 LiA69 fun (x428 : TyA69)=>
   Ld z427 ⟨z8.heap.size,0,none⟩ (.int .i64) fun x429=>
   Ld z427 (.add ⟨z8.heap.size,0,none⟩ 1) (.int .i64) fun x430=>
   Ld z427 (.add ⟨z8.heap.size,0,none⟩ 2) (.int .i64) fun x431=>
   Ld z427 (.add ⟨z8.heap.size,0,none⟩ 3) (.int .i64) fun x432=>
   Ld z427 (.add ⟨z8.heap.size,0,none⟩ 4) (.int .i64) fun x433=>
   Ld z427 (.add ⟨z8.heap.size,0,none⟩ 5) (.int .i64) fun x434=>
   R x428 (x429,x430,x431,x432,x433,x434) 0 z427)
def S119 (g1 : TyA30) (m2 : Int × Int × Int × Int × Int × Int) (f3 : TyA34) (code4 : Int) (w : World) (R : (TyA69) -> (Int × Int × Int × Int × Int × Int) -> Int -> World -> Prop) : Prop :=
 Nw w (.cells (Sig.cells LiA30 g1).toArray 31) fun z5=>
 Nw z5 (.cells #[.int .i64 (m2.1),.int .i64 (m2.2.1),.int .i64 (m2.2.2.1),.int .i64 (m2.2.2.2.1),.int .i64 (m2.2.2.2.2.1),.int .i64 (m2.2.2.2.2.2)] 24) fun z6=>
 Nw z6 (.cells (Sig.cells LiA34 f3).toArray 35) fun z7=>
 Nw z7 (.cells #[.int .i64 0,.string (⟨#[]⟩ : ByteArray),.int .i64 0,.int .i64 0,.int .i64 0,.int .i64 0,.int .i64 0,.string (⟨#[]⟩ : ByteArray),.int .i64 0] 70) fun z8=>
 Nw z8 (.cells #[.int .i64 0,.int .i64 0,.int .i64 0,.int .i64 0,.int .i64 0,.int .i64 0] 24) fun z9=>
 Ld z9 ⟨z5.heap.size,0,none⟩ (.int .i64) fun x10=>
 Ld z9 (.add ⟨z5.heap.size,0,none⟩ 1) (.int .i64) fun x11=>
 Ld z9 (.add ⟨z5.heap.size,0,none⟩ 2) (.int .i64) fun x12=>
 Ld z9 (.add ⟨z5.heap.size,0,none⟩ 3) (.int .i64) fun x13=>
 Ld z9 (.add ⟨z5.heap.size,0,none⟩ 4) (.int .i64) fun x14=>
 Ld z9 (.add ⟨z5.heap.size,0,none⟩ 5) (.int .i64) fun x15=>
 Ld z9 ⟨w.heap.size,0,none⟩ (.int .i64) fun x16=>
 Ld z9 (.add ⟨w.heap.size,0,none⟩ 1) (.int .i64) fun x17=>
 Ld z9 (.add ⟨w.heap.size,0,none⟩ 2) (.int .i64) fun x18=>
 Ld z9 (.add ⟨w.heap.size,0,none⟩ 3) (.int .i64) fun x19=>
 Ld z9 (.add ⟨w.heap.size,0,none⟩ 4) (.int .i64) fun x20=>
 Ld z9 (.add ⟨w.heap.size,0,none⟩ 5) (.int .i64) fun x21=>
 C85 (x10,x11,x12,x13,x14,x15) (x16,x17,x18,x19,x20,x21) z9 fun r22 r23 z24=>
  Nw z24 (.cells #[.int .i64 0,.int .i64 0,.int .i64 0,.int .i64 0,.int .i64 0,.int .i64 0] 24) fun z25=>
  St z25 ⟨z24.heap.size,0,none⟩ (.int .i64 (r22.1)) fun z26=>
  St z26 (.add ⟨z24.heap.size,0,none⟩ 1) (.int .i64 (r22.2.1)) fun z27=>
  St z27 (.add ⟨z24.heap.size,0,none⟩ 2) (.int .i64 (r22.2.2.1)) fun z28=>
  St z28 (.add ⟨z24.heap.size,0,none⟩ 3) (.int .i64 (r22.2.2.2.1)) fun z29=>
  St z29 (.add ⟨z24.heap.size,0,none⟩ 4) (.int .i64 (r22.2.2.2.2.1)) fun z30=>
  St z30 (.add ⟨z24.heap.size,0,none⟩ 5) (.int .i64 (r22.2.2.2.2.2)) fun z31=>
  Br (r23 != 0) (∃ vS46 : World -> Prop,vS46 z31.drew /\ LdS vS46 ⟨z5.heap.size,0,none⟩ (.int .i64) fun x47=>
   LdS vS46 (.add ⟨z5.heap.size,0,none⟩ 1) (.int .i64) fun x48=>
   LdS vS46 (.add ⟨z5.heap.size,0,none⟩ 2) (.int .i64) fun x49=>
   LdS vS46 (.add ⟨z5.heap.size,0,none⟩ 3) (.int .i64) fun x50=>
   LdS vS46 (.add ⟨z5.heap.size,0,none⟩ 4) (.int .i64) fun x51=>
   LdS vS46 (.add ⟨z5.heap.size,0,none⟩ 5) (.int .i64) fun x52=>
   StT ⟨z7.heap.size,0,none⟩ 0 LiA69 ((0,(⟨#[]⟩ : ByteArray),0,0,0,0,0,(⟨#[]⟩ : ByteArray),0) : TyA69) z31.drew fun z53=>
   vS46 z53 /\ St z53 ⟨z8.heap.size,0,none⟩ (.int .i64 x47) fun z54=>
   St z54 (.add ⟨z8.heap.size,0,none⟩ 1) (.int .i64 x48) fun z55=>
   St z55 (.add ⟨z8.heap.size,0,none⟩ 2) (.int .i64 x49) fun z56=>
   St z56 (.add ⟨z8.heap.size,0,none⟩ 3) (.int .i64 x50) fun z57=>
   St z57 (.add ⟨z8.heap.size,0,none⟩ 4) (.int .i64 x51) fun z58=>
   St z58 (.add ⟨z8.heap.size,0,none⟩ 5) (.int .i64 x52) fun z59=>
   LdT z59 ⟨z7.heap.size,0,none⟩ 0 LiA69 fun (x60 : TyA69)=>
   Ld z59 ⟨z8.heap.size,0,none⟩ (.int .i64) fun x61=>
   Ld z59 (.add ⟨z8.heap.size,0,none⟩ 1) (.int .i64) fun x62=>
   Ld z59 (.add ⟨z8.heap.size,0,none⟩ 2) (.int .i64) fun x63=>
   Ld z59 (.add ⟨z8.heap.size,0,none⟩ 3) (.int .i64) fun x64=>
   Ld z59 (.add ⟨z8.heap.size,0,none⟩ 4) (.int .i64) fun x65=>
   Ld z59 (.add ⟨z8.heap.size,0,none⟩ 5) (.int .i64) fun x66=>
   R x60 (x61,x62,x63,x64,x65,x66) r23 z59) (LdT z31 ⟨w.heap.size,0,none⟩ 0 LiA30 fun (x67 : TyA30)=>
   LdT z31 ⟨z6.heap.size,0,none⟩ 0 LiA34 fun (x68 : TyA34)=>
   C69 x67 x68 code4 z31 fun r69 r70 z71=>
    Br (r70 != 0) (∃ vS86 : World -> Prop,vS86 z71.drew /\ LdS vS86 ⟨z5.heap.size,0,none⟩ (.int .i64) fun x87=>
     LdS vS86 (.add ⟨z5.heap.size,0,none⟩ 1) (.int .i64) fun x88=>
     LdS vS86 (.add ⟨z5.heap.size,0,none⟩ 2) (.int .i64) fun x89=>
     LdS vS86 (.add ⟨z5.heap.size,0,none⟩ 3) (.int .i64) fun x90=>
     LdS vS86 (.add ⟨z5.heap.size,0,none⟩ 4) (.int .i64) fun x91=>
     LdS vS86 (.add ⟨z5.heap.size,0,none⟩ 5) (.int .i64) fun x92=>
     StT ⟨z7.heap.size,0,none⟩ 0 LiA69 ((0,(⟨#[]⟩ : ByteArray),0,0,0,0,0,(⟨#[]⟩ : ByteArray),0) : TyA69) z71.drew fun z93=>
     vS86 z93 /\ St z93 ⟨z8.heap.size,0,none⟩ (.int .i64 x87) fun z94=>
     St z94 (.add ⟨z8.heap.size,0,none⟩ 1) (.int .i64 x88) fun z95=>
     St z95 (.add ⟨z8.heap.size,0,none⟩ 2) (.int .i64 x89) fun z96=>
     St z96 (.add ⟨z8.heap.size,0,none⟩ 3) (.int .i64 x90) fun z97=>
     St z97 (.add ⟨z8.heap.size,0,none⟩ 4) (.int .i64 x91) fun z98=>
     St z98 (.add ⟨z8.heap.size,0,none⟩ 5) (.int .i64 x92) fun z99=>
     LdT z99 ⟨z7.heap.size,0,none⟩ 0 LiA69 fun (x100 : TyA69)=>
     Ld z99 ⟨z8.heap.size,0,none⟩ (.int .i64) fun x101=>
     Ld z99 (.add ⟨z8.heap.size,0,none⟩ 1) (.int .i64) fun x102=>
     Ld z99 (.add ⟨z8.heap.size,0,none⟩ 2) (.int .i64) fun x103=>
     Ld z99 (.add ⟨z8.heap.size,0,none⟩ 3) (.int .i64) fun x104=>
     Ld z99 (.add ⟨z8.heap.size,0,none⟩ 4) (.int .i64) fun x105=>
     Ld z99 (.add ⟨z8.heap.size,0,none⟩ 5) (.int .i64) fun x106=>
     R x100 (x101,x102,x103,x104,x105,x106) r70 z99) (Ld z71 (((⟨w.heap.size,0,none⟩ : Addr).add 22).add 2) (.int .i64) fun x107=>
     C71 r69 x107 z71 fun r108 r109 z110=>
      Br (r109 != 0) (∃ vS125 : World -> Prop,vS125 z110.drew /\ LdS vS125 ⟨z5.heap.size,0,none⟩ (.int .i64) fun x126=>
       LdS vS125 (.add ⟨z5.heap.size,0,none⟩ 1) (.int .i64) fun x127=>
       LdS vS125 (.add ⟨z5.heap.size,0,none⟩ 2) (.int .i64) fun x128=>
       LdS vS125 (.add ⟨z5.heap.size,0,none⟩ 3) (.int .i64) fun x129=>
       LdS vS125 (.add ⟨z5.heap.size,0,none⟩ 4) (.int .i64) fun x130=>
       LdS vS125 (.add ⟨z5.heap.size,0,none⟩ 5) (.int .i64) fun x131=>
       StT ⟨z7.heap.size,0,none⟩ 0 LiA69 ((0,(⟨#[]⟩ : ByteArray),0,0,0,0,0,(⟨#[]⟩ : ByteArray),0) : TyA69) z110.drew fun z132=>
       vS125 z132 /\ St z132 ⟨z8.heap.size,0,none⟩ (.int .i64 x126) fun z133=>
       St z133 (.add ⟨z8.heap.size,0,none⟩ 1) (.int .i64 x127) fun z134=>
       St z134 (.add ⟨z8.heap.size,0,none⟩ 2) (.int .i64 x128) fun z135=>
       St z135 (.add ⟨z8.heap.size,0,none⟩ 3) (.int .i64 x129) fun z136=>
       St z136 (.add ⟨z8.heap.size,0,none⟩ 4) (.int .i64 x130) fun z137=>
       St z137 (.add ⟨z8.heap.size,0,none⟩ 5) (.int .i64 x131) fun z138=>
       LdT z138 ⟨z7.heap.size,0,none⟩ 0 LiA69 fun (x139 : TyA69)=>
       Ld z138 ⟨z8.heap.size,0,none⟩ (.int .i64) fun x140=>
       Ld z138 (.add ⟨z8.heap.size,0,none⟩ 1) (.int .i64) fun x141=>
       Ld z138 (.add ⟨z8.heap.size,0,none⟩ 2) (.int .i64) fun x142=>
       Ld z138 (.add ⟨z8.heap.size,0,none⟩ 3) (.int .i64) fun x143=>
       Ld z138 (.add ⟨z8.heap.size,0,none⟩ 4) (.int .i64) fun x144=>
       Ld z138 (.add ⟨z8.heap.size,0,none⟩ 5) (.int .i64) fun x145=>
       R x139 (x140,x141,x142,x143,x144,x145) r109 z138) (Ld z110 ⟨z24.heap.size,0,none⟩ (.int .i64) fun x146=>
       Ld z110 (.add ⟨z24.heap.size,0,none⟩ 1) (.int .i64) fun x147=>
       Ld z110 (.add ⟨z24.heap.size,0,none⟩ 2) (.int .i64) fun x148=>
       Ld z110 (.add ⟨z24.heap.size,0,none⟩ 3) (.int .i64) fun x149=>
       Ld z110 (.add ⟨z24.heap.size,0,none⟩ 4) (.int .i64) fun x150=>
       Ld z110 (.add ⟨z24.heap.size,0,none⟩ 5) (.int .i64) fun x151=>
       Ld z110 (((⟨w.heap.size,0,none⟩ : Addr).add 22).add 5) (.int .i64) fun x152=>
       C136 (x146,x147,x148,x149,x150,x151) (0,x152) z110 fun r153 r154 z155=>
        Nw z155 (.cells #[.int .i64 0,.int .i64 0] 68) fun z156=>
        St z156 ⟨z155.heap.size,0,none⟩ (.int .i64 (r153.1)) fun z157=>
        St z157 (.add ⟨z155.heap.size,0,none⟩ 1) (.int .i64 (r153.2)) fun z158=>
        Br (r154 != 0) (∃ vS173 : World -> Prop,vS173 z158.drew /\ LdS vS173 ⟨z5.heap.size,0,none⟩ (.int .i64) fun x174=>
         LdS vS173 (.add ⟨z5.heap.size,0,none⟩ 1) (.int .i64) fun x175=>
         LdS vS173 (.add ⟨z5.heap.size,0,none⟩ 2) (.int .i64) fun x176=>
         LdS vS173 (.add ⟨z5.heap.size,0,none⟩ 3) (.int .i64) fun x177=>
         LdS vS173 (.add ⟨z5.heap.size,0,none⟩ 4) (.int .i64) fun x178=>
         LdS vS173 (.add ⟨z5.heap.size,0,none⟩ 5) (.int .i64) fun x179=>
         StT ⟨z7.heap.size,0,none⟩ 0 LiA69 ((0,(⟨#[]⟩ : ByteArray),0,0,0,0,0,(⟨#[]⟩ : ByteArray),0) : TyA69) z158.drew fun z180=>
         vS173 z180 /\ St z180 ⟨z8.heap.size,0,none⟩ (.int .i64 x174) fun z181=>
         St z181 (.add ⟨z8.heap.size,0,none⟩ 1) (.int .i64 x175) fun z182=>
         St z182 (.add ⟨z8.heap.size,0,none⟩ 2) (.int .i64 x176) fun z183=>
         St z183 (.add ⟨z8.heap.size,0,none⟩ 3) (.int .i64 x177) fun z184=>
         St z184 (.add ⟨z8.heap.size,0,none⟩ 4) (.int .i64 x178) fun z185=>
         St z185 (.add ⟨z8.heap.size,0,none⟩ 5) (.int .i64 x179) fun z186=>
         LdT z186 ⟨z7.heap.size,0,none⟩ 0 LiA69 fun (x187 : TyA69)=>
         Ld z186 ⟨z8.heap.size,0,none⟩ (.int .i64) fun x188=>
         Ld z186 (.add ⟨z8.heap.size,0,none⟩ 1) (.int .i64) fun x189=>
         Ld z186 (.add ⟨z8.heap.size,0,none⟩ 2) (.int .i64) fun x190=>
         Ld z186 (.add ⟨z8.heap.size,0,none⟩ 3) (.int .i64) fun x191=>
         Ld z186 (.add ⟨z8.heap.size,0,none⟩ 4) (.int .i64) fun x192=>
         Ld z186 (.add ⟨z8.heap.size,0,none⟩ 5) (.int .i64) fun x193=>
         R x187 (x188,x189,x190,x191,x192,x193) r154 z186) (Ld z158 ⟨z24.heap.size,0,none⟩ (.int .i64) fun x194=>
         Ld z158 (.add ⟨z24.heap.size,0,none⟩ 1) (.int .i64) fun x195=>
         Ld z158 (.add ⟨z24.heap.size,0,none⟩ 2) (.int .i64) fun x196=>
         Ld z158 (.add ⟨z24.heap.size,0,none⟩ 3) (.int .i64) fun x197=>
         Ld z158 (.add ⟨z24.heap.size,0,none⟩ 4) (.int .i64) fun x198=>
         Ld z158 (.add ⟨z24.heap.size,0,none⟩ 5) (.int .i64) fun x199=>
         Ld z158 (((⟨w.heap.size,0,none⟩ : Addr).add 22).add 5) (.int .i64) fun x200=>
         C136 (x194,x195,x196,x197,x198,x199) (r108,x200) z158 fun r201 r202 z203=>
          Nw z203 (.cells #[.int .i64 0,.int .i64 0] 68) fun z204=>
          St z204 ⟨z203.heap.size,0,none⟩ (.int .i64 (r201.1)) fun z205=>
          St z205 (.add ⟨z203.heap.size,0,none⟩ 1) (.int .i64 (r201.2)) fun z206=>
          Br (r202 != 0) (∃ vS221 : World -> Prop,vS221 z206.drew /\ LdS vS221 ⟨z5.heap.size,0,none⟩ (.int .i64) fun x222=>
           LdS vS221 (.add ⟨z5.heap.size,0,none⟩ 1) (.int .i64) fun x223=>
           LdS vS221 (.add ⟨z5.heap.size,0,none⟩ 2) (.int .i64) fun x224=>
           LdS vS221 (.add ⟨z5.heap.size,0,none⟩ 3) (.int .i64) fun x225=>
           LdS vS221 (.add ⟨z5.heap.size,0,none⟩ 4) (.int .i64) fun x226=>
           LdS vS221 (.add ⟨z5.heap.size,0,none⟩ 5) (.int .i64) fun x227=>
           StT ⟨z7.heap.size,0,none⟩ 0 LiA69 ((0,(⟨#[]⟩ : ByteArray),0,0,0,0,0,(⟨#[]⟩ : ByteArray),0) : TyA69) z206.drew fun z228=>
           vS221 z228 /\ St z228 ⟨z8.heap.size,0,none⟩ (.int .i64 x222) fun z229=>
           St z229 (.add ⟨z8.heap.size,0,none⟩ 1) (.int .i64 x223) fun z230=>
           St z230 (.add ⟨z8.heap.size,0,none⟩ 2) (.int .i64 x224) fun z231=>
           St z231 (.add ⟨z8.heap.size,0,none⟩ 3) (.int .i64 x225) fun z232=>
           St z232 (.add ⟨z8.heap.size,0,none⟩ 4) (.int .i64 x226) fun z233=>
           St z233 (.add ⟨z8.heap.size,0,none⟩ 5) (.int .i64 x227) fun z234=>
           LdT z234 ⟨z7.heap.size,0,none⟩ 0 LiA69 fun (x235 : TyA69)=>
           Ld z234 ⟨z8.heap.size,0,none⟩ (.int .i64) fun x236=>
           Ld z234 (.add ⟨z8.heap.size,0,none⟩ 1) (.int .i64) fun x237=>
           Ld z234 (.add ⟨z8.heap.size,0,none⟩ 2) (.int .i64) fun x238=>
           Ld z234 (.add ⟨z8.heap.size,0,none⟩ 3) (.int .i64) fun x239=>
           Ld z234 (.add ⟨z8.heap.size,0,none⟩ 4) (.int .i64) fun x240=>
           Ld z234 (.add ⟨z8.heap.size,0,none⟩ 5) (.int .i64) fun x241=>
           R x235 (x236,x237,x238,x239,x240,x241) r202 z234) (Ld z206 ⟨z24.heap.size,0,none⟩ (.int .i64) fun x242=>
           Ld z206 (.add ⟨z24.heap.size,0,none⟩ 1) (.int .i64) fun x243=>
           Ld z206 (.add ⟨z24.heap.size,0,none⟩ 2) (.int .i64) fun x244=>
           Ld z206 (.add ⟨z24.heap.size,0,none⟩ 3) (.int .i64) fun x245=>
           Ld z206 (.add ⟨z24.heap.size,0,none⟩ 4) (.int .i64) fun x246=>
           Ld z206 (.add ⟨z24.heap.size,0,none⟩ 5) (.int .i64) fun x247=>
           Ld z206 (((⟨w.heap.size,0,none⟩ : Addr).add 22).add 4) (.int .i64) fun x248=>
           C137 (x242,x243,x244,x245,x246,x247) (0,x248) z206 fun r249 r250 z251=>
            Br (r250 != 0) (∃ vS266 : World -> Prop,vS266 z251.drew /\ LdS vS266 ⟨z5.heap.size,0,none⟩ (.int .i64) fun x267=>
             LdS vS266 (.add ⟨z5.heap.size,0,none⟩ 1) (.int .i64) fun x268=>
             LdS vS266 (.add ⟨z5.heap.size,0,none⟩ 2) (.int .i64) fun x269=>
             LdS vS266 (.add ⟨z5.heap.size,0,none⟩ 3) (.int .i64) fun x270=>
             LdS vS266 (.add ⟨z5.heap.size,0,none⟩ 4) (.int .i64) fun x271=>
             LdS vS266 (.add ⟨z5.heap.size,0,none⟩ 5) (.int .i64) fun x272=>
             StT ⟨z7.heap.size,0,none⟩ 0 LiA69 ((0,(⟨#[]⟩ : ByteArray),0,0,0,0,0,(⟨#[]⟩ : ByteArray),0) : TyA69) z251.drew fun z273=>
             vS266 z273 /\ St z273 ⟨z8.heap.size,0,none⟩ (.int .i64 x267) fun z274=>
             St z274 (.add ⟨z8.heap.size,0,none⟩ 1) (.int .i64 x268) fun z275=>
             St z275 (.add ⟨z8.heap.size,0,none⟩ 2) (.int .i64 x269) fun z276=>
             St z276 (.add ⟨z8.heap.size,0,none⟩ 3) (.int .i64 x270) fun z277=>
             St z277 (.add ⟨z8.heap.size,0,none⟩ 4) (.int .i64 x271) fun z278=>
             St z278 (.add ⟨z8.heap.size,0,none⟩ 5) (.int .i64 x272) fun z279=>
             LdT z279 ⟨z7.heap.size,0,none⟩ 0 LiA69 fun (x280 : TyA69)=>
             Ld z279 ⟨z8.heap.size,0,none⟩ (.int .i64) fun x281=>
             Ld z279 (.add ⟨z8.heap.size,0,none⟩ 1) (.int .i64) fun x282=>
             Ld z279 (.add ⟨z8.heap.size,0,none⟩ 2) (.int .i64) fun x283=>
             Ld z279 (.add ⟨z8.heap.size,0,none⟩ 3) (.int .i64) fun x284=>
             Ld z279 (.add ⟨z8.heap.size,0,none⟩ 4) (.int .i64) fun x285=>
             Ld z279 (.add ⟨z8.heap.size,0,none⟩ 5) (.int .i64) fun x286=>
             R x280 (x281,x282,x283,x284,x285,x286) r250 z279) (LdT z251 ⟨w.heap.size,0,none⟩ 0 LiA30 fun (x287 : TyA30)=>
             LdT z251 ⟨z6.heap.size,0,none⟩ 0 LiA34 fun (x288 : TyA34)=>
             C37 x287 x288 code4 z251 fun r289 r290 z291=>
              Br (r290 != 0) (∃ vS306 : World -> Prop,vS306 z291.drew /\ LdS vS306 ⟨z5.heap.size,0,none⟩ (.int .i64) fun x307=>
               LdS vS306 (.add ⟨z5.heap.size,0,none⟩ 1) (.int .i64) fun x308=>
               LdS vS306 (.add ⟨z5.heap.size,0,none⟩ 2) (.int .i64) fun x309=>
               LdS vS306 (.add ⟨z5.heap.size,0,none⟩ 3) (.int .i64) fun x310=>
               LdS vS306 (.add ⟨z5.heap.size,0,none⟩ 4) (.int .i64) fun x311=>
               LdS vS306 (.add ⟨z5.heap.size,0,none⟩ 5) (.int .i64) fun x312=>
               StT ⟨z7.heap.size,0,none⟩ 0 LiA69 ((0,(⟨#[]⟩ : ByteArray),0,0,0,0,0,(⟨#[]⟩ : ByteArray),0) : TyA69) z291.drew fun z313=>
               vS306 z313 /\ St z313 ⟨z8.heap.size,0,none⟩ (.int .i64 x307) fun z314=>
               St z314 (.add ⟨z8.heap.size,0,none⟩ 1) (.int .i64 x308) fun z315=>
               St z315 (.add ⟨z8.heap.size,0,none⟩ 2) (.int .i64 x309) fun z316=>
               St z316 (.add ⟨z8.heap.size,0,none⟩ 3) (.int .i64 x310) fun z317=>
               St z317 (.add ⟨z8.heap.size,0,none⟩ 4) (.int .i64 x311) fun z318=>
               St z318 (.add ⟨z8.heap.size,0,none⟩ 5) (.int .i64 x312) fun z319=>
               LdT z319 ⟨z7.heap.size,0,none⟩ 0 LiA69 fun (x320 : TyA69)=>
               Ld z319 ⟨z8.heap.size,0,none⟩ (.int .i64) fun x321=>
               Ld z319 (.add ⟨z8.heap.size,0,none⟩ 1) (.int .i64) fun x322=>
               Ld z319 (.add ⟨z8.heap.size,0,none⟩ 2) (.int .i64) fun x323=>
               Ld z319 (.add ⟨z8.heap.size,0,none⟩ 3) (.int .i64) fun x324=>
               Ld z319 (.add ⟨z8.heap.size,0,none⟩ 4) (.int .i64) fun x325=>
               Ld z319 (.add ⟨z8.heap.size,0,none⟩ 5) (.int .i64) fun x326=>
               R x320 (x321,x322,x323,x324,x325,x326) r290 z319) (Join (S119J1 w code4 z5 z6 z7 z8 z155 z203 r249 R) fun (vJ435 : (Addr × Int) -> World -> Prop)=>
                ∃ vS436 : World -> Prop,vS436 z291.drew /\ LdS vS436 ⟨z5.heap.size,0,none⟩ (.int .i64) fun x437=>
                LdS vS436 (.add ⟨z5.heap.size,0,none⟩ 1) (.int .i64) fun x438=>
                LdS vS436 (.add ⟨z5.heap.size,0,none⟩ 2) (.int .i64) fun x439=>
                LdS vS436 (.add ⟨z5.heap.size,0,none⟩ 3) (.int .i64) fun x440=>
                LdS vS436 (.add ⟨z5.heap.size,0,none⟩ 4) (.int .i64) fun x441=>
                LdS vS436 (.add ⟨z5.heap.size,0,none⟩ 5) (.int .i64) fun x442=>
                (C20 r289 0 z291.drew fun r443 z444=>
                  vS436 z444 /\ (C85 (r443.1,r443.2.1,r443.2.2.1,r443.2.2.2.1,r443.2.2.2.2.1,r443.2.2.2.2.2) (x437,x438,x439,x440,x441,x442) z444 fun r445 r446 z447=>
                    Nw z447 (.cells #[.int .i64 0,.int .i64 0,.int .i64 0,.int .i64 0,.int .i64 0,.int .i64 0] 24) fun z448=>
                    St z448 ⟨z447.heap.size,0,none⟩ (.int .i64 (r445.1)) fun z449=>
                    St z449 (.add ⟨z447.heap.size,0,none⟩ 1) (.int .i64 (r445.2.1)) fun z450=>
                    St z450 (.add ⟨z447.heap.size,0,none⟩ 2) (.int .i64 (r445.2.2.1)) fun z451=>
                    St z451 (.add ⟨z447.heap.size,0,none⟩ 3) (.int .i64 (r445.2.2.2.1)) fun z452=>
                    St z452 (.add ⟨z447.heap.size,0,none⟩ 4) (.int .i64 (r445.2.2.2.2.1)) fun z453=>
                    St z453 (.add ⟨z447.heap.size,0,none⟩ 5) (.int .i64 (r445.2.2.2.2.2)) fun z454=>
                    vJ435 (⟨z447.heap.size,0,none⟩,r446) z454) /\
                  (Nw z444 (.cells #[.int .i64 0,.int .i64 0,.int .i64 0,.int .i64 0,.int .i64 0,.int .i64 0] 24) fun z455=>
                   vS436 z455 /\ C85 (r443.1,r443.2.1,r443.2.2.1,r443.2.2.2.1,r443.2.2.2.2.1,r443.2.2.2.2.2) (x437,x438,x439,x440,x441,x442) z455 fun r456 r457 z458=>
                    St z458 ⟨z444.heap.size,0,none⟩ (.int .i64 (r456.1)) fun z459=>
                    St z459 (.add ⟨z444.heap.size,0,none⟩ 1) (.int .i64 (r456.2.1)) fun z460=>
                    St z460 (.add ⟨z444.heap.size,0,none⟩ 2) (.int .i64 (r456.2.2.1)) fun z461=>
                    St z461 (.add ⟨z444.heap.size,0,none⟩ 3) (.int .i64 (r456.2.2.2.1)) fun z462=>
                    St z462 (.add ⟨z444.heap.size,0,none⟩ 4) (.int .i64 (r456.2.2.2.2.1)) fun z463=>
                    St z463 (.add ⟨z444.heap.size,0,none⟩ 5) (.int .i64 (r456.2.2.2.2.2)) fun z464=>
                    vJ435 (⟨z444.heap.size,0,none⟩,r457) z464)) /\
                (Nw z291.drew (.cells #[.int .i64 0,.int .i64 0,.int .i64 0,.int .i64 0,.int .i64 0,.int .i64 0] 24) fun z465=>
                 vS436 z465 /\ C20 r289 0 z465 fun r466 z467=>
                  vS436 z467 /\ C85 (r466.1,r466.2.1,r466.2.2.1,r466.2.2.2.1,r466.2.2.2.2.1,r466.2.2.2.2.2) (x437,x438,x439,x440,x441,x442) z467 fun r468 r469 z470=>
                   St z470 ⟨z291.drew.heap.size,0,none⟩ (.int .i64 (r468.1)) fun z471=>
                   St z471 (.add ⟨z291.drew.heap.size,0,none⟩ 1) (.int .i64 (r468.2.1)) fun z472=>
                   St z472 (.add ⟨z291.drew.heap.size,0,none⟩ 2) (.int .i64 (r468.2.2.1)) fun z473=>
                   St z473 (.add ⟨z291.drew.heap.size,0,none⟩ 3) (.int .i64 (r468.2.2.2.1)) fun z474=>
                   St z474 (.add ⟨z291.drew.heap.size,0,none⟩ 4) (.int .i64 (r468.2.2.2.2.1)) fun z475=>
                   St z475 (.add ⟨z291.drew.heap.size,0,none⟩ 5) (.int .i64 (r468.2.2.2.2.2)) fun z476=>
                   vJ435 (⟨z291.drew.heap.size,0,none⟩,r469) z476))))))))
def pl119 : Plan := (.q (.q (.seq (.q (.cond (.seq (.reg (.held [4] (.take 0 (.take 1 (.take 2 (.eff 3 none (.eff 4 (some []) (.take 5 .done)))))))) .leaf) .leaf)) (.q (.seq (.q (.cond (.seq (.reg (.held [4] (.take 0 (.take 1 (.take 2 (.eff 3 none (.eff 4 (some []) (.take 5 .done)))))))) .leaf) .leaf)) (.q (.seq (.q (.cond (.seq (.reg (.held [4] (.take 0 (.take 1 (.take 2 (.eff 3 none (.eff 4 (some []) (.take 5 .done)))))))) .leaf) .leaf)) (.q (.seq (.q (.cond (.seq (.reg (.held [4] (.take 0 (.take 1 (.take 2 (.eff 3 none (.eff 4 (some []) (.take 5 .done)))))))) .leaf) .leaf)) (.q (.seq (.q (.cond (.seq (.reg (.held [4] (.take 0 (.take 1 (.take 2 (.eff 3 none (.eff 4 (some []) (.take 5 .done)))))))) .leaf) .leaf)) (.q (.seq (.q (.cond (.seq (.reg (.held [4] (.take 0 (.take 1 (.take 2 (.eff 3 none (.eff 4 (some []) (.take 5 .done)))))))) .leaf) .leaf)) (.q (.seq (.q (.cond (.seq (.reg (.held [4] (.take 0 (.take 1 (.take 2 (.eff 3 none (.eff 4 (some []) (.take 5 .done)))))))) .leaf) .leaf)) (.join [(25,(.one .addr)),(26,(.one (.int .i64)))] [3,4,5,6,8,9,17,19,21] (.reg (.held [3] (.take 0 (.take 2 (.effs 1 none (.effs 3 (some [7]) (.take 4 (.take 5 (.take 6 (.eff 7 (some [8]) (.eff 8 (some []) (.take 9 .done)))))) (.eff 7 none (.eff 3 (some [8]) (.take 4 (.take 5 (.take 6 (.eff 8 (some []) (.take 9 .done)))))))) (.eff 7 none (.eff 1 none (.eff 3 (some [8]) (.take 4 (.take 5 (.take 6 (.eff 8 (some []) (.take 9 .done))))))))))))) (.seq (.q (.cond (.seq (.reg (.held [4] (.take 0 (.take 1 (.take 2 (.eff 3 none (.eff 4 (some []) (.take 5 .done)))))))) .leaf) .leaf)) (.seq (.reg (.held [16] (.take 0 (.take 1 (.take 2 (.take 4 (.take 5 (.take 6 (.take 7 (.take 8 (.take 9 (.take 10 (.take 11 (.take 12 (.take 14 (.eff 3 none (.take 13 (.eff 15 none (.eff 16 (some []) (.take 17 .done)))))))))))))))))))) .leaf))))))))))))))))))
theorem T119 (g1 : TyA30) (m2 : Int × Int × Int × Int × Int × Int) (f3 : TyA34) (code4 : Int) (w : World) (R : (TyA69) -> (Int × Int × Int × Int × Int × Int) -> Int -> World -> Prop) (h : S119 g1 m2 f3 code4 w R) : C119 g1 (m2.1,m2.2.1,m2.2.2.1,m2.2.2.2.1,m2.2.2.2.2.1,m2.2.2.2.2.2) f3 code4 w R := by
 have e : fnT Tryz.prog ⟨FF,MAY,(fun _ _=> False)⟩ pl119 Tryz.f119 [.agg (Sig.cells LiA30 g1).toArray,.agg #[.int .i64 (m2.1),.int .i64 (m2.2.1),.int .i64 (m2.2.2.1),.int .i64 (m2.2.2.2.1),.int .i64 (m2.2.2.2.2.1),.int .i64 (m2.2.2.2.2.2)],.agg (Sig.cells LiA34 f3).toArray,.int .i64 code4] w [(.agg [(.int .i64),.str,(.int .i64),(.int .i64),(.int .i64),(.int .i64),(.int .i64),.str,(.int .i64)]),(.agg [(.int .i64),(.int .i64),(.int .i64),(.int .i64),(.int .i64),(.int .i64)]),(.one (.int .i64))] (fun s w=> R s.1 s.2.1 s.2.2 w) = S119 g1 m2 f3 code4 w R := by kernel_rfl
 exact (fn_calls okF okM Tryz.func119 (by kernel_rfl) (by kernel_rfl) (e.mpr h)).mono fun _ _ ⟨s,he,hR⟩=> ⟨s.1,s.2.1,s.2.2,he,hR⟩
def S87L1 (w : World) (z5 : World) (z6 : World) (z7 : World) (r92 : Slc) (R : Slc -> (Int × Int × Int × Int × Int × Int) -> Int -> World -> Prop) (I188 : (Slc × Int) -> World -> Prop) (s186 : Slc × Int) (z187 : World) : Prop :=
 Br (decide (s186.2 < ((r92.len : Nat) : Int))) (0 <= s186.2 /\ s186.2 < (r92.len : Nat) /\ Nn r92.p fun a189=>
  Ld z187 (a189.add ((s186.2).toNat * 1)) (.int .i64) fun x190=>
  LdT z187 ⟨w.heap.size,0,none⟩ 0 LiA30 fun (x191 : TyA30)=>
  Ld z187 ⟨z5.heap.size,0,none⟩ (.int .i64) fun x192=>
  Ld z187 (.add ⟨z5.heap.size,0,none⟩ 1) (.int .i64) fun x193=>
  Ld z187 (.add ⟨z5.heap.size,0,none⟩ 2) (.int .i64) fun x194=>
  Ld z187 (.add ⟨z5.heap.size,0,none⟩ 3) (.int .i64) fun x195=>
  Ld z187 (.add ⟨z5.heap.size,0,none⟩ 4) (.int .i64) fun x196=>
  Ld z187 (.add ⟨z5.heap.size,0,none⟩ 5) (.int .i64) fun x197=>
  LdT z187 ⟨z6.heap.size,0,none⟩ 0 LiA34 fun (x198 : TyA34)=>
  C119 x191 (x192,x193,x194,x195,x196,x197) x198 x190 z187 fun r199 r200 r201 z202=>
   Nw z202 (.cells #[.int .i64 0,.string (⟨#[]⟩ : ByteArray),.int .i64 0,.int .i64 0,.int .i64 0,.int .i64 0,.int .i64 0,.string (⟨#[]⟩ : ByteArray),.int .i64 0] 70) fun z203=>
   Nw z203 (.cells #[.int .i64 0,.int .i64 0,.int .i64 0,.int .i64 0,.int .i64 0,.int .i64 0] 24) fun z204=>
   StT ⟨z202.heap.size,0,none⟩ 0 LiA69 r199 z204 fun z205=>
   St z205 ⟨z203.heap.size,0,none⟩ (.int .i64 (r200.1)) fun z206=>
   St z206 (.add ⟨z203.heap.size,0,none⟩ 1) (.int .i64 (r200.2.1)) fun z207=>
   St z207 (.add ⟨z203.heap.size,0,none⟩ 2) (.int .i64 (r200.2.2.1)) fun z208=>
   St z208 (.add ⟨z203.heap.size,0,none⟩ 3) (.int .i64 (r200.2.2.2.1)) fun z209=>
   St z209 (.add ⟨z203.heap.size,0,none⟩ 4) (.int .i64 (r200.2.2.2.2.1)) fun z210=>
   St z210 (.add ⟨z203.heap.size,0,none⟩ 5) (.int .i64 (r200.2.2.2.2.2)) fun z211=>
   Br (r201 != 0) (St z211 ⟨z7.heap.size,0,none⟩ (.int .i64 0) fun z212=>
    St z212 (.add ⟨z7.heap.size,0,none⟩ 1) (.int .i64 0) fun z213=>
    St z213 (.add ⟨z7.heap.size,0,none⟩ 2) (.int .i64 0) fun z214=>
    St z214 (.add ⟨z7.heap.size,0,none⟩ 3) (.int .i64 0) fun z215=>
    St z215 (.add ⟨z7.heap.size,0,none⟩ 4) (.int .i64 0) fun z216=>
    St z216 (.add ⟨z7.heap.size,0,none⟩ 5) (.int .i64 0) fun z217=>
    Ld z217 ⟨z7.heap.size,0,none⟩ (.int .i64) fun x218=>
    Ld z217 (.add ⟨z7.heap.size,0,none⟩ 1) (.int .i64) fun x219=>
    Ld z217 (.add ⟨z7.heap.size,0,none⟩ 2) (.int .i64) fun x220=>
    Ld z217 (.add ⟨z7.heap.size,0,none⟩ 3) (.int .i64) fun x221=>
    Ld z217 (.add ⟨z7.heap.size,0,none⟩ 4) (.int .i64) fun x222=>
    Ld z217 (.add ⟨z7.heap.size,0,none⟩ 5) (.int .i64) fun x223=>
    R (⟨none,0,0⟩ : Slc) (x218,x219,x220,x221,x222,x223) r201 z217) (∃ vS224 : World -> Prop,vS224 z211.drew /\ LdST vS224 ⟨z202.heap.size,0,none⟩ 0 LiA69 fun (x225 : TyA69)=>
    LdS vS224 ⟨z203.heap.size,0,none⟩ (.int .i64) fun x226=>
    LdS vS224 (.add ⟨z203.heap.size,0,none⟩ 1) (.int .i64) fun x227=>
    LdS vS224 (.add ⟨z203.heap.size,0,none⟩ 2) (.int .i64) fun x228=>
    LdS vS224 (.add ⟨z203.heap.size,0,none⟩ 3) (.int .i64) fun x229=>
    LdS vS224 (.add ⟨z203.heap.size,0,none⟩ 4) (.int .i64) fun x230=>
    LdS vS224 (.add ⟨z203.heap.size,0,none⟩ 5) (.int .i64) fun x231=>
    Nw z211.drew (.cells #[.int .i64 (x225.1),.string x225.2.1,.int .i64 (x225.2.2.1),.int .i64 (x225.2.2.2.1),.int .i64 (x225.2.2.2.2.1),.int .i64 (x225.2.2.2.2.2.1),.int .i64 (x225.2.2.2.2.2.2.1),.string x225.2.2.2.2.2.2.2.1,.int .i64 (x225.2.2.2.2.2.2.2.2)] 70) fun z232=>
    vS224 z232 /\ Rn Tryz.prog (Builtin.append_ #[49,49] 49 #[Slc.v s186.1,Slc.v ((⟨some ⟨z211.drew.heap.size,0,none⟩,1,1⟩ : Slc))]) z232 Slc.v fun (x233 : Slc) z234=>
    vS224 z234 /\ St z234 ⟨z5.heap.size,0,none⟩ (.int .i64 x226) fun z235=>
    St z235 (.add ⟨z5.heap.size,0,none⟩ 1) (.int .i64 x227) fun z236=>
    St z236 (.add ⟨z5.heap.size,0,none⟩ 2) (.int .i64 x228) fun z237=>
    St z237 (.add ⟨z5.heap.size,0,none⟩ 3) (.int .i64 x229) fun z238=>
    St z238 (.add ⟨z5.heap.size,0,none⟩ 4) (.int .i64 x230) fun z239=>
    St z239 (.add ⟨z5.heap.size,0,none⟩ 5) (.int .i64 x231) fun z240=>
    I188 (x233,IntKind.i64.wrap (s186.2 + 1)) z240)) (Ld z187.drew ⟨z5.heap.size,0,none⟩ (.int .i64) fun x241=>
  Ld z187.drew (.add ⟨z5.heap.size,0,none⟩ 1) (.int .i64) fun x242=>
  Ld z187.drew (.add ⟨z5.heap.size,0,none⟩ 2) (.int .i64) fun x243=>
  Ld z187.drew (.add ⟨z5.heap.size,0,none⟩ 3) (.int .i64) fun x244=>
  Ld z187.drew (.add ⟨z5.heap.size,0,none⟩ 4) (.int .i64) fun x245=>
  Ld z187.drew (.add ⟨z5.heap.size,0,none⟩ 5) (.int .i64) fun x246=>
  St z187.drew ⟨z7.heap.size,0,none⟩ (.int .i64 x241) fun z247=>
  St z247 (.add ⟨z7.heap.size,0,none⟩ 1) (.int .i64 x242) fun z248=>
  St z248 (.add ⟨z7.heap.size,0,none⟩ 2) (.int .i64 x243) fun z249=>
  St z249 (.add ⟨z7.heap.size,0,none⟩ 3) (.int .i64 x244) fun z250=>
  St z250 (.add ⟨z7.heap.size,0,none⟩ 4) (.int .i64 x245) fun z251=>
  St z251 (.add ⟨z7.heap.size,0,none⟩ 5) (.int .i64 x246) fun z252=>
  Ld z252 ⟨z7.heap.size,0,none⟩ (.int .i64) fun x253=>
  Ld z252 (.add ⟨z7.heap.size,0,none⟩ 1) (.int .i64) fun x254=>
  Ld z252 (.add ⟨z7.heap.size,0,none⟩ 2) (.int .i64) fun x255=>
  Ld z252 (.add ⟨z7.heap.size,0,none⟩ 3) (.int .i64) fun x256=>
  Ld z252 (.add ⟨z7.heap.size,0,none⟩ 4) (.int .i64) fun x257=>
  Ld z252 (.add ⟨z7.heap.size,0,none⟩ 5) (.int .i64) fun x258=>
  R s186.1 (x253,x254,x255,x256,x257,x258) 0 z252)
def S87 (g1 : TyA30) (m2 : Int × Int × Int × Int × Int × Int) (f3 : TyA34) (s4 : ByteArray) (w : World) (R : Slc -> (Int × Int × Int × Int × Int × Int) -> Int -> World -> Prop) : Prop :=
 Nw w (.cells (Sig.cells LiA30 g1).toArray 31) fun z5=>
 Nw z5 (.cells #[.int .i64 (m2.1),.int .i64 (m2.2.1),.int .i64 (m2.2.2.1),.int .i64 (m2.2.2.2.1),.int .i64 (m2.2.2.2.2.1),.int .i64 (m2.2.2.2.2.2)] 24) fun z6=>
 Nw z6 (.cells (Sig.cells LiA34 f3).toArray 35) fun z7=>
 Nw z7 (.cells #[.int .i64 0,.int .i64 0,.int .i64 0,.int .i64 0,.int .i64 0,.int .i64 0] 24) fun z8=>
 LdT z8 ⟨w.heap.size,0,none⟩ 0 LiA30 fun (x18 : TyA30)=>
 C18 x18 z8 fun r19 z20=>
  Br (r19 != 0) (St z20 ⟨z7.heap.size,0,none⟩ (.int .i64 0) fun z21=>
   St z21 (.add ⟨z7.heap.size,0,none⟩ 1) (.int .i64 0) fun z22=>
   St z22 (.add ⟨z7.heap.size,0,none⟩ 2) (.int .i64 0) fun z23=>
   St z23 (.add ⟨z7.heap.size,0,none⟩ 3) (.int .i64 0) fun z24=>
   St z24 (.add ⟨z7.heap.size,0,none⟩ 4) (.int .i64 0) fun z25=>
   St z25 (.add ⟨z7.heap.size,0,none⟩ 5) (.int .i64 0) fun z26=>
   Ld z26 ⟨z7.heap.size,0,none⟩ (.int .i64) fun x27=>
   Ld z26 (.add ⟨z7.heap.size,0,none⟩ 1) (.int .i64) fun x28=>
   Ld z26 (.add ⟨z7.heap.size,0,none⟩ 2) (.int .i64) fun x29=>
   Ld z26 (.add ⟨z7.heap.size,0,none⟩ 3) (.int .i64) fun x30=>
   Ld z26 (.add ⟨z7.heap.size,0,none⟩ 4) (.int .i64) fun x31=>
   Ld z26 (.add ⟨z7.heap.size,0,none⟩ 5) (.int .i64) fun x32=>
   R (⟨none,0,0⟩ : Slc) (x27,x28,x29,x30,x31,x32) r19 z26) (Ld z20 ⟨z5.heap.size,0,none⟩ (.int .i64) fun x47=>
   Ld z20 (.add ⟨z5.heap.size,0,none⟩ 1) (.int .i64) fun x48=>
   Ld z20 (.add ⟨z5.heap.size,0,none⟩ 2) (.int .i64) fun x49=>
   Ld z20 (.add ⟨z5.heap.size,0,none⟩ 3) (.int .i64) fun x50=>
   Ld z20 (.add ⟨z5.heap.size,0,none⟩ 4) (.int .i64) fun x51=>
   Ld z20 (.add ⟨z5.heap.size,0,none⟩ 5) (.int .i64) fun x52=>
   C49 (x47,x48,x49,x50,x51,x52) z20 fun r53 z54=>
    Br (r53 != 0) (St z54 ⟨z7.heap.size,0,none⟩ (.int .i64 0) fun z55=>
     St z55 (.add ⟨z7.heap.size,0,none⟩ 1) (.int .i64 0) fun z56=>
     St z56 (.add ⟨z7.heap.size,0,none⟩ 2) (.int .i64 0) fun z57=>
     St z57 (.add ⟨z7.heap.size,0,none⟩ 3) (.int .i64 0) fun z58=>
     St z58 (.add ⟨z7.heap.size,0,none⟩ 4) (.int .i64 0) fun z59=>
     St z59 (.add ⟨z7.heap.size,0,none⟩ 5) (.int .i64 0) fun z60=>
     Ld z60 ⟨z7.heap.size,0,none⟩ (.int .i64) fun x61=>
     Ld z60 (.add ⟨z7.heap.size,0,none⟩ 1) (.int .i64) fun x62=>
     Ld z60 (.add ⟨z7.heap.size,0,none⟩ 2) (.int .i64) fun x63=>
     Ld z60 (.add ⟨z7.heap.size,0,none⟩ 3) (.int .i64) fun x64=>
     Ld z60 (.add ⟨z7.heap.size,0,none⟩ 4) (.int .i64) fun x65=>
     Ld z60 (.add ⟨z7.heap.size,0,none⟩ 5) (.int .i64) fun x66=>
     R (⟨none,0,0⟩ : Slc) (x61,x62,x63,x64,x65,x66) r53 z60) (LdT z54 ⟨z6.heap.size,0,none⟩ 0 LiA34 fun (x76 : TyA34)=>
     C36 x76 z54 fun r77 z78=>
      Br (r77 != 0) (St z78 ⟨z7.heap.size,0,none⟩ (.int .i64 0) fun z79=>
       St z79 (.add ⟨z7.heap.size,0,none⟩ 1) (.int .i64 0) fun z80=>
       St z80 (.add ⟨z7.heap.size,0,none⟩ 2) (.int .i64 0) fun z81=>
       St z81 (.add ⟨z7.heap.size,0,none⟩ 3) (.int .i64 0) fun z82=>
       St z82 (.add ⟨z7.heap.size,0,none⟩ 4) (.int .i64 0) fun z83=>
       St z83 (.add ⟨z7.heap.size,0,none⟩ 5) (.int .i64 0) fun z84=>
       Ld z84 ⟨z7.heap.size,0,none⟩ (.int .i64) fun x85=>
       Ld z84 (.add ⟨z7.heap.size,0,none⟩ 1) (.int .i64) fun x86=>
       Ld z84 (.add ⟨z7.heap.size,0,none⟩ 2) (.int .i64) fun x87=>
       Ld z84 (.add ⟨z7.heap.size,0,none⟩ 3) (.int .i64) fun x88=>
       Ld z84 (.add ⟨z7.heap.size,0,none⟩ 4) (.int .i64) fun x89=>
       Ld z84 (.add ⟨z7.heap.size,0,none⟩ 5) (.int .i64) fun x90=>
       R (⟨none,0,0⟩ : Slc) (x85,x86,x87,x88,x89,x90) r77 z84) (LdT z78 ⟨z6.heap.size,0,none⟩ 0 LiA34 fun (x91 : TyA34)=>
       C118 x91 s4 z78 fun r92 r93 z94=>
        Br (r93 != 0) (St z94 ⟨z7.heap.size,0,none⟩ (.int .i64 0) fun z101=>
         St z101 (.add ⟨z7.heap.size,0,none⟩ 1) (.int .i64 0) fun z102=>
         St z102 (.add ⟨z7.heap.size,0,none⟩ 2) (.int .i64 0) fun z103=>
         St z103 (.add ⟨z7.heap.size,0,none⟩ 3) (.int .i64 0) fun z104=>
         St z104 (.add ⟨z7.heap.size,0,none⟩ 4) (.int .i64 0) fun z105=>
         St z105 (.add ⟨z7.heap.size,0,none⟩ 5) (.int .i64 0) fun z106=>
         Ld z106 ⟨z7.heap.size,0,none⟩ (.int .i64) fun x107=>
         Ld z106 (.add ⟨z7.heap.size,0,none⟩ 1) (.int .i64) fun x108=>
         Ld z106 (.add ⟨z7.heap.size,0,none⟩ 2) (.int .i64) fun x109=>
         Ld z106 (.add ⟨z7.heap.size,0,none⟩ 3) (.int .i64) fun x110=>
         Ld z106 (.add ⟨z7.heap.size,0,none⟩ 4) (.int .i64) fun x111=>
         Ld z106 (.add ⟨z7.heap.size,0,none⟩ 5) (.int .i64) fun x112=>
         R (⟨none,0,0⟩ : Slc) (x107,x108,x109,x110,x111,x112) r93 z106) (Br (decide (((r92.len : Nat) : Int) > 16384)) (St z94 ⟨z7.heap.size,0,none⟩ (.int .i64 0) fun z119=>
          St z119 (.add ⟨z7.heap.size,0,none⟩ 1) (.int .i64 0) fun z120=>
          St z120 (.add ⟨z7.heap.size,0,none⟩ 2) (.int .i64 0) fun z121=>
          St z121 (.add ⟨z7.heap.size,0,none⟩ 3) (.int .i64 0) fun z122=>
          St z122 (.add ⟨z7.heap.size,0,none⟩ 4) (.int .i64 0) fun z123=>
          St z123 (.add ⟨z7.heap.size,0,none⟩ 5) (.int .i64 0) fun z124=>
          Ld z124 ⟨z7.heap.size,0,none⟩ (.int .i64) fun x125=>
          Ld z124 (.add ⟨z7.heap.size,0,none⟩ 1) (.int .i64) fun x126=>
          Ld z124 (.add ⟨z7.heap.size,0,none⟩ 2) (.int .i64) fun x127=>
          Ld z124 (.add ⟨z7.heap.size,0,none⟩ 3) (.int .i64) fun x128=>
          Ld z124 (.add ⟨z7.heap.size,0,none⟩ 4) (.int .i64) fun x129=>
          Ld z124 (.add ⟨z7.heap.size,0,none⟩ 5) (.int .i64) fun x130=>
          R (⟨none,0,0⟩ : Slc) (x125,x126,x127,x128,x129,x130) 6 z124) (Lp (σ := Slc × Int) (S87L1 w z5 z6 z7 r92 R) ((⟨none,0,0⟩ : Slc),0) z94)))))
def pl87 : Plan := (.q (.seq (.q (.q (.cond (.q .leaf) .leaf))) (.seq (.q (.q (.cond (.q .leaf) .leaf))) (.seq (.q (.q (.cond (.q .leaf) .leaf))) (.q (.seq (.q (.cond (.q .leaf) .leaf)) (.seq (.q (.cond (.q .leaf) .leaf)) (.q (.seq (.q (.block (.loop [(16,(.one .slc)),(56,(.one (.int .i64)))] [4,5,6,9,54,55] (.q (.seq (.cond .leaf .leaf) (.seq (.block (.q (.q (.seq (.q (.cond (.q .leaf) .leaf)) (.reg (.held [6] (.take 0 (.take 1 (.take 4 (.eff 2 none (.eff 3 none (.take 5 (.eff 6 (some []) .done))))))))))))) (.reg .seq))))))) (.seq (.reg (.tail 3)) .leaf))))))))))
theorem T87 (g1 : TyA30) (m2 : Int × Int × Int × Int × Int × Int) (f3 : TyA34) (s4 : ByteArray) (w : World) (R : Slc -> (Int × Int × Int × Int × Int × Int) -> Int -> World -> Prop) (h : S87 g1 m2 f3 s4 w R) : C87 g1 (m2.1,m2.2.1,m2.2.2.1,m2.2.2.2.1,m2.2.2.2.2.1,m2.2.2.2.2.2) f3 s4 w R := by
 have e : fnT Tryz.prog ⟨FF,MAY,(fun _ _=> False)⟩ pl87 Tryz.f87 [.agg (Sig.cells LiA30 g1).toArray,.agg #[.int .i64 (m2.1),.int .i64 (m2.2.1),.int .i64 (m2.2.2.1),.int .i64 (m2.2.2.2.1),.int .i64 (m2.2.2.2.2.1),.int .i64 (m2.2.2.2.2.2)],.agg (Sig.cells LiA34 f3).toArray,.string s4] w [(.one .slc),(.agg [(.int .i64),(.int .i64),(.int .i64),(.int .i64),(.int .i64),(.int .i64)]),(.one (.int .i64))] (fun s w=> R s.1 s.2.1 s.2.2 w) = S87 g1 m2 f3 s4 w R := by kernel_rfl
 exact (fn_calls okF okM Tryz.func87 (by kernel_rfl) (by kernel_rfl) (e.mpr h)).mono fun _ _ ⟨s,he,hR⟩=> ⟨s.1,s.2.1,s.2.2,he,hR⟩
def S50 (x1 : TyA38) (g2 : TyA30) (f3 : TyA34) (s4 : ByteArray) (w : World) (R : (TyA38) -> Slc -> Int -> World -> Prop) : Prop :=
 Nw w (.cells (Sig.cells LiA38 x1).toArray 39) fun z5=>
 Nw z5 (.cells (Sig.cells LiA30 g2).toArray 31) fun z6=>
 Nw z6 (.cells (Sig.cells LiA34 f3).toArray 35) fun z7=>
 Nw z7 (.cells #[.bool false,.int .i64 0,.int .i64 0,.int .i64 0,.int .i64 0,.int .i64 0,.int .i64 0,.int .i64 0,.int .i64 0,.int .i64 0,.int .i64 0,.int .i64 0,.int .i64 0] 39) fun z8=>
 LdT z8 ⟨z5.heap.size,0,none⟩ 0 LiA30 fun (x9 : TyA30)=>
 Ld z8 (.add ⟨w.heap.size,0,none⟩ 1) (.int .i64) fun x10=>
 Ld z8 (((⟨w.heap.size,0,none⟩ : Addr).add 1).add 1) (.int .i64) fun x11=>
 Ld z8 (((⟨w.heap.size,0,none⟩ : Addr).add 1).add 2) (.int .i64) fun x12=>
 Ld z8 (((⟨w.heap.size,0,none⟩ : Addr).add 1).add 3) (.int .i64) fun x13=>
 Ld z8 (((⟨w.heap.size,0,none⟩ : Addr).add 1).add 4) (.int .i64) fun x14=>
 Ld z8 (((⟨w.heap.size,0,none⟩ : Addr).add 1).add 5) (.int .i64) fun x15=>
 LdT z8 ⟨z6.heap.size,0,none⟩ 0 LiA34 fun (x16 : TyA34)=>
 C87 x9 (x10,x11,x12,x13,x14,x15) x16 s4 z8 fun r17 r18 r19 z20=>
  Nw z20 (.cells #[.int .i64 0,.int .i64 0,.int .i64 0,.int .i64 0,.int .i64 0,.int .i64 0] 24) fun z21=>
  St z21 ⟨z20.heap.size,0,none⟩ (.int .i64 (r18.1)) fun z22=>
  St z22 (.add ⟨z20.heap.size,0,none⟩ 1) (.int .i64 (r18.2.1)) fun z23=>
  St z23 (.add ⟨z20.heap.size,0,none⟩ 2) (.int .i64 (r18.2.2.1)) fun z24=>
  St z24 (.add ⟨z20.heap.size,0,none⟩ 3) (.int .i64 (r18.2.2.2.1)) fun z25=>
  St z25 (.add ⟨z20.heap.size,0,none⟩ 4) (.int .i64 (r18.2.2.2.2.1)) fun z26=>
  St z26 (.add ⟨z20.heap.size,0,none⟩ 5) (.int .i64 (r18.2.2.2.2.2)) fun z27=>
  Br (r19 != 0) (LdT z27 ⟨w.heap.size,0,none⟩ 0 LiA38 fun (x30 : TyA38)=>
   StT ⟨z7.heap.size,0,none⟩ 0 LiA38 x30 z27 fun z31=>
   LdT z31 ⟨z7.heap.size,0,none⟩ 0 LiA38 fun (x32 : TyA38)=>
   R x32 (⟨none,0,0⟩ : Slc) r19 z31) (Ld z27 ⟨z20.heap.size,0,none⟩ (.int .i64) fun x33=>
   Ld z27 (.add ⟨z20.heap.size,0,none⟩ 1) (.int .i64) fun x34=>
   Ld z27 (.add ⟨z20.heap.size,0,none⟩ 2) (.int .i64) fun x35=>
   Ld z27 (.add ⟨z20.heap.size,0,none⟩ 3) (.int .i64) fun x36=>
   Ld z27 (.add ⟨z20.heap.size,0,none⟩ 4) (.int .i64) fun x37=>
   Ld z27 (.add ⟨z20.heap.size,0,none⟩ 5) (.int .i64) fun x38=>
   St z27 (.add ⟨w.heap.size,0,none⟩ 1) (.int .i64 x33) fun z39=>
   St z39 (((⟨w.heap.size,0,none⟩ : Addr).add 1).add 1) (.int .i64 x34) fun z40=>
   St z40 (((⟨w.heap.size,0,none⟩ : Addr).add 1).add 2) (.int .i64 x35) fun z41=>
   St z41 (((⟨w.heap.size,0,none⟩ : Addr).add 1).add 3) (.int .i64 x36) fun z42=>
   St z42 (((⟨w.heap.size,0,none⟩ : Addr).add 1).add 4) (.int .i64 x37) fun z43=>
   St z43 (((⟨w.heap.size,0,none⟩ : Addr).add 1).add 5) (.int .i64 x38) fun z44=>
   LdT z44 ⟨w.heap.size,0,none⟩ 0 LiA38 fun (x45 : TyA38)=>
   StT ⟨z7.heap.size,0,none⟩ 0 LiA38 x45 z44 fun z46=>
   LdT z46 ⟨z7.heap.size,0,none⟩ 0 LiA38 fun (x47 : TyA38)=>
   R x47 r17 0 z46)
def pl50 : Plan := (.q (.q (.seq (.q (.cond (.q .leaf) .leaf)) (.q (.q .leaf)))))
theorem T50 (x1 : TyA38) (g2 : TyA30) (f3 : TyA34) (s4 : ByteArray) (w : World) (R : (TyA38) -> Slc -> Int -> World -> Prop) (h : S50 x1 g2 f3 s4 w R) : C50 x1 g2 f3 s4 w R := by
 have e : fnT Tryz.prog ⟨FF,MAY,(fun _ _=> False)⟩ pl50 Tryz.f50 [.agg (Sig.cells LiA38 x1).toArray,.agg (Sig.cells LiA30 g2).toArray,.agg (Sig.cells LiA34 f3).toArray,.string s4] w [(.agg [.bool,(.int .i64),(.int .i64),(.int .i64),(.int .i64),(.int .i64),(.int .i64),(.int .i64),(.int .i64),(.int .i64),(.int .i64),(.int .i64),(.int .i64)]),(.one .slc),(.one (.int .i64))] (fun s w=> R s.1 s.2.1 s.2.2 w) = S50 x1 g2 f3 s4 w R := by kernel_rfl
 exact (fn_calls okF okM Tryz.func50 (by kernel_rfl) (by kernel_rfl) (e.mpr h)).mono fun _ _ ⟨s,he,hR⟩=> ⟨s.1,s.2.1,s.2.2,he,hR⟩
def S51 (x1 : TyA38) (g2 : TyA30) (f3 : TyA34) (s4 : ByteArray) (w : World) (R : (TyA38) -> Slc -> Int -> World -> Prop) : Prop :=
 Nw w (.cells (Sig.cells LiA38 x1).toArray 39) fun z5=>
 Nw z5 (.cells (Sig.cells LiA30 g2).toArray 31) fun z6=>
 Nw z6 (.cells (Sig.cells LiA34 f3).toArray 35) fun z7=>
 Nw z7 (.cells #[.bool false,.int .i64 0,.int .i64 0,.int .i64 0,.int .i64 0,.int .i64 0,.int .i64 0,.int .i64 0,.int .i64 0,.int .i64 0,.int .i64 0,.int .i64 0,.int .i64 0] 39) fun z8=>
 LdT z8 ⟨z5.heap.size,0,none⟩ 0 LiA30 fun (x14 : TyA30)=>
 C18 x14 z8 fun r15 z16=>
  Br (r15 != 0) (LdT z16 ⟨w.heap.size,0,none⟩ 0 LiA38 fun (x17 : TyA38)=>
   StT ⟨z7.heap.size,0,none⟩ 0 LiA38 x17 z16 fun z18=>
   LdT z18 ⟨z7.heap.size,0,none⟩ 0 LiA38 fun (x19 : TyA38)=>
   R x19 (⟨none,0,0⟩ : Slc) r15 z18) (LdT z16 ⟨w.heap.size,0,none⟩ 0 LiA38 fun (x20 : TyA38)=>
   Ld z16 (((⟨z5.heap.size,0,none⟩ : Addr).add 22).add 3) (.int .i64) fun x21=>
   C48 x20 0 (IntKind.i64.wrap (0 - x21)) z16 fun r22 r23 z24=>
    Nw z24 (.cells #[.bool false,.int .i64 0,.int .i64 0,.int .i64 0,.int .i64 0,.int .i64 0,.int .i64 0,.int .i64 0,.int .i64 0,.int .i64 0,.int .i64 0,.int .i64 0,.int .i64 0] 39) fun z25=>
    StT ⟨z24.heap.size,0,none⟩ 0 LiA38 r22 z25 fun z26=>
    Br (r23 != 0) (LdT z26 ⟨w.heap.size,0,none⟩ 0 LiA38 fun (x29 : TyA38)=>
     StT ⟨z7.heap.size,0,none⟩ 0 LiA38 x29 z26 fun z30=>
     LdT z30 ⟨z7.heap.size,0,none⟩ 0 LiA38 fun (x31 : TyA38)=>
     R x31 (⟨none,0,0⟩ : Slc) r23 z30) (LdT z26 ⟨z24.heap.size,0,none⟩ 0 LiA38 fun (x32 : TyA38)=>
     LdT z26 ⟨z5.heap.size,0,none⟩ 0 LiA30 fun (x33 : TyA30)=>
     LdT z26 ⟨z6.heap.size,0,none⟩ 0 LiA34 fun (x34 : TyA34)=>
     C50 x32 x33 x34 s4 z26 fun r35 r36 r37 z38=>
      Nw z38 (.cells #[.bool false,.int .i64 0,.int .i64 0,.int .i64 0,.int .i64 0,.int .i64 0,.int .i64 0,.int .i64 0,.int .i64 0,.int .i64 0,.int .i64 0,.int .i64 0,.int .i64 0] 39) fun z39=>
      StT ⟨z38.heap.size,0,none⟩ 0 LiA38 r35 z39 fun z40=>
      Br (r37 != 0) (LdT z40 ⟨w.heap.size,0,none⟩ 0 LiA38 fun (x43 : TyA38)=>
       StT ⟨z7.heap.size,0,none⟩ 0 LiA38 x43 z40 fun z44=>
       LdT z44 ⟨z7.heap.size,0,none⟩ 0 LiA38 fun (x45 : TyA38)=>
       R x45 (⟨none,0,0⟩ : Slc) r37 z44) (LdT z40 ⟨z38.heap.size,0,none⟩ 0 LiA38 fun (x46 : TyA38)=>
       StT ⟨z7.heap.size,0,none⟩ 0 LiA38 x46 z40 fun z47=>
       LdT z47 ⟨z7.heap.size,0,none⟩ 0 LiA38 fun (x48 : TyA38)=>
       R x48 r36 0 z47)))
def pl51 : Plan := (.q (.seq (.q (.q (.cond (.q .leaf) .leaf))) (.q (.seq (.q (.cond (.q .leaf) .leaf)) (.q (.seq (.q (.cond (.q .leaf) .leaf)) (.q .leaf)))))))
theorem T51 (x1 : TyA38) (g2 : TyA30) (f3 : TyA34) (s4 : ByteArray) (w : World) (R : (TyA38) -> Slc -> Int -> World -> Prop) (h : S51 x1 g2 f3 s4 w R) : C51 x1 g2 f3 s4 w R := by
 have e : fnT Tryz.prog ⟨FF,MAY,(fun _ _=> False)⟩ pl51 Tryz.f51 [.agg (Sig.cells LiA38 x1).toArray,.agg (Sig.cells LiA30 g2).toArray,.agg (Sig.cells LiA34 f3).toArray,.string s4] w [(.agg [.bool,(.int .i64),(.int .i64),(.int .i64),(.int .i64),(.int .i64),(.int .i64),(.int .i64),(.int .i64),(.int .i64),(.int .i64),(.int .i64),(.int .i64)]),(.one .slc),(.one (.int .i64))] (fun s w=> R s.1 s.2.1 s.2.2 w) = S51 x1 g2 f3 s4 w R := by kernel_rfl
 exact (fn_calls okF okM Tryz.func51 (by kernel_rfl) (by kernel_rfl) (e.mpr h)).mono fun _ _ ⟨s,he,hR⟩=> ⟨s.1,s.2.1,s.2.2,he,hR⟩
def S88 (g1 : TyA30) (m2 : Int × Int × Int × Int × Int × Int) (n3 : Int) (w : World) (R : (Int × Int × Int × Int × Int × Int) -> Int -> World -> Prop) : Prop :=
 Nw w (.cells (Sig.cells LiA30 g1).toArray 31) fun z4=>
 Nw z4 (.cells #[.int .i64 (m2.1),.int .i64 (m2.2.1),.int .i64 (m2.2.2.1),.int .i64 (m2.2.2.2.1),.int .i64 (m2.2.2.2.2.1),.int .i64 (m2.2.2.2.2.2)] 24) fun z5=>
 Nw z5 (.cells #[.int .i64 0,.int .i64 0,.int .i64 0,.int .i64 0,.int .i64 0,.int .i64 0] 24) fun z6=>
 LdT z6 ⟨w.heap.size,0,none⟩ 0 LiA30 fun (x22 : TyA30)=>
 C18 x22 z6 fun r23 z24=>
  Br (r23 != 0) (Ld z24 ⟨z4.heap.size,0,none⟩ (.int .i64) fun x25=>
   Ld z24 (.add ⟨z4.heap.size,0,none⟩ 1) (.int .i64) fun x26=>
   Ld z24 (.add ⟨z4.heap.size,0,none⟩ 2) (.int .i64) fun x27=>
   Ld z24 (.add ⟨z4.heap.size,0,none⟩ 3) (.int .i64) fun x28=>
   Ld z24 (.add ⟨z4.heap.size,0,none⟩ 4) (.int .i64) fun x29=>
   Ld z24 (.add ⟨z4.heap.size,0,none⟩ 5) (.int .i64) fun x30=>
   St z24 ⟨z5.heap.size,0,none⟩ (.int .i64 x25) fun z31=>
   St z31 (.add ⟨z5.heap.size,0,none⟩ 1) (.int .i64 x26) fun z32=>
   St z32 (.add ⟨z5.heap.size,0,none⟩ 2) (.int .i64 x27) fun z33=>
   St z33 (.add ⟨z5.heap.size,0,none⟩ 3) (.int .i64 x28) fun z34=>
   St z34 (.add ⟨z5.heap.size,0,none⟩ 4) (.int .i64 x29) fun z35=>
   St z35 (.add ⟨z5.heap.size,0,none⟩ 5) (.int .i64 x30) fun z36=>
   Ld z36 ⟨z5.heap.size,0,none⟩ (.int .i64) fun x37=>
   Ld z36 (.add ⟨z5.heap.size,0,none⟩ 1) (.int .i64) fun x38=>
   Ld z36 (.add ⟨z5.heap.size,0,none⟩ 2) (.int .i64) fun x39=>
   Ld z36 (.add ⟨z5.heap.size,0,none⟩ 3) (.int .i64) fun x40=>
   Ld z36 (.add ⟨z5.heap.size,0,none⟩ 4) (.int .i64) fun x41=>
   Ld z36 (.add ⟨z5.heap.size,0,none⟩ 5) (.int .i64) fun x42=>
   R (x37,x38,x39,x40,x41,x42) r23 z36) (C111 n3 1000 z24 fun r43 r44 z45=>
    Br (r44 != 0) (Ld z45 ⟨z4.heap.size,0,none⟩ (.int .i64) fun x58=>
     Ld z45 (.add ⟨z4.heap.size,0,none⟩ 1) (.int .i64) fun x59=>
     Ld z45 (.add ⟨z4.heap.size,0,none⟩ 2) (.int .i64) fun x60=>
     Ld z45 (.add ⟨z4.heap.size,0,none⟩ 3) (.int .i64) fun x61=>
     Ld z45 (.add ⟨z4.heap.size,0,none⟩ 4) (.int .i64) fun x62=>
     Ld z45 (.add ⟨z4.heap.size,0,none⟩ 5) (.int .i64) fun x63=>
     St z45 ⟨z5.heap.size,0,none⟩ (.int .i64 x58) fun z64=>
     St z64 (.add ⟨z5.heap.size,0,none⟩ 1) (.int .i64 x59) fun z65=>
     St z65 (.add ⟨z5.heap.size,0,none⟩ 2) (.int .i64 x60) fun z66=>
     St z66 (.add ⟨z5.heap.size,0,none⟩ 3) (.int .i64 x61) fun z67=>
     St z67 (.add ⟨z5.heap.size,0,none⟩ 4) (.int .i64 x62) fun z68=>
     St z68 (.add ⟨z5.heap.size,0,none⟩ 5) (.int .i64 x63) fun z69=>
     Ld z69 ⟨z5.heap.size,0,none⟩ (.int .i64) fun x70=>
     Ld z69 (.add ⟨z5.heap.size,0,none⟩ 1) (.int .i64) fun x71=>
     Ld z69 (.add ⟨z5.heap.size,0,none⟩ 2) (.int .i64) fun x72=>
     Ld z69 (.add ⟨z5.heap.size,0,none⟩ 3) (.int .i64) fun x73=>
     Ld z69 (.add ⟨z5.heap.size,0,none⟩ 4) (.int .i64) fun x74=>
     Ld z69 (.add ⟨z5.heap.size,0,none⟩ 5) (.int .i64) fun x75=>
     R (x70,x71,x72,x73,x74,x75) r44 z69) (Ld z45 (((⟨w.heap.size,0,none⟩ : Addr).add 22).add 4) (.int .i64) fun x76=>
     C107 r43 x76 z45 fun r77 r78 z79=>
      Br (r78 != 0) (Ld z79 ⟨z4.heap.size,0,none⟩ (.int .i64) fun x92=>
       Ld z79 (.add ⟨z4.heap.size,0,none⟩ 1) (.int .i64) fun x93=>
       Ld z79 (.add ⟨z4.heap.size,0,none⟩ 2) (.int .i64) fun x94=>
       Ld z79 (.add ⟨z4.heap.size,0,none⟩ 3) (.int .i64) fun x95=>
       Ld z79 (.add ⟨z4.heap.size,0,none⟩ 4) (.int .i64) fun x96=>
       Ld z79 (.add ⟨z4.heap.size,0,none⟩ 5) (.int .i64) fun x97=>
       St z79 ⟨z5.heap.size,0,none⟩ (.int .i64 x92) fun z98=>
       St z98 (.add ⟨z5.heap.size,0,none⟩ 1) (.int .i64 x93) fun z99=>
       St z99 (.add ⟨z5.heap.size,0,none⟩ 2) (.int .i64 x94) fun z100=>
       St z100 (.add ⟨z5.heap.size,0,none⟩ 3) (.int .i64 x95) fun z101=>
       St z101 (.add ⟨z5.heap.size,0,none⟩ 4) (.int .i64 x96) fun z102=>
       St z102 (.add ⟨z5.heap.size,0,none⟩ 5) (.int .i64 x97) fun z103=>
       Ld z103 ⟨z5.heap.size,0,none⟩ (.int .i64) fun x104=>
       Ld z103 (.add ⟨z5.heap.size,0,none⟩ 1) (.int .i64) fun x105=>
       Ld z103 (.add ⟨z5.heap.size,0,none⟩ 2) (.int .i64) fun x106=>
       Ld z103 (.add ⟨z5.heap.size,0,none⟩ 3) (.int .i64) fun x107=>
       Ld z103 (.add ⟨z5.heap.size,0,none⟩ 4) (.int .i64) fun x108=>
       Ld z103 (.add ⟨z5.heap.size,0,none⟩ 5) (.int .i64) fun x109=>
       R (x104,x105,x106,x107,x108,x109) r78 z103) (Ld z79 (((⟨w.heap.size,0,none⟩ : Addr).add 22).add 2) (.int .i64) fun x110=>
       C71 r77 x110 z79 fun r111 r112 z113=>
        Br (r112 != 0) (Ld z113 ⟨z4.heap.size,0,none⟩ (.int .i64) fun x126=>
         Ld z113 (.add ⟨z4.heap.size,0,none⟩ 1) (.int .i64) fun x127=>
         Ld z113 (.add ⟨z4.heap.size,0,none⟩ 2) (.int .i64) fun x128=>
         Ld z113 (.add ⟨z4.heap.size,0,none⟩ 3) (.int .i64) fun x129=>
         Ld z113 (.add ⟨z4.heap.size,0,none⟩ 4) (.int .i64) fun x130=>
         Ld z113 (.add ⟨z4.heap.size,0,none⟩ 5) (.int .i64) fun x131=>
         St z113 ⟨z5.heap.size,0,none⟩ (.int .i64 x126) fun z132=>
         St z132 (.add ⟨z5.heap.size,0,none⟩ 1) (.int .i64 x127) fun z133=>
         St z133 (.add ⟨z5.heap.size,0,none⟩ 2) (.int .i64 x128) fun z134=>
         St z134 (.add ⟨z5.heap.size,0,none⟩ 3) (.int .i64 x129) fun z135=>
         St z135 (.add ⟨z5.heap.size,0,none⟩ 4) (.int .i64 x130) fun z136=>
         St z136 (.add ⟨z5.heap.size,0,none⟩ 5) (.int .i64 x131) fun z137=>
         Ld z137 ⟨z5.heap.size,0,none⟩ (.int .i64) fun x138=>
         Ld z137 (.add ⟨z5.heap.size,0,none⟩ 1) (.int .i64) fun x139=>
         Ld z137 (.add ⟨z5.heap.size,0,none⟩ 2) (.int .i64) fun x140=>
         Ld z137 (.add ⟨z5.heap.size,0,none⟩ 3) (.int .i64) fun x141=>
         Ld z137 (.add ⟨z5.heap.size,0,none⟩ 4) (.int .i64) fun x142=>
         Ld z137 (.add ⟨z5.heap.size,0,none⟩ 5) (.int .i64) fun x143=>
         R (x138,x139,x140,x141,x142,x143) r112 z137) (∃ vS144 : World -> Prop,vS144 z113.drew /\ LdS vS144 ⟨z4.heap.size,0,none⟩ (.int .i64) fun x145=>
         LdS vS144 (.add ⟨z4.heap.size,0,none⟩ 1) (.int .i64) fun x146=>
         LdS vS144 (.add ⟨z4.heap.size,0,none⟩ 2) (.int .i64) fun x147=>
         LdS vS144 (.add ⟨z4.heap.size,0,none⟩ 3) (.int .i64) fun x148=>
         LdS vS144 (.add ⟨z4.heap.size,0,none⟩ 4) (.int .i64) fun x149=>
         LdS vS144 (.add ⟨z4.heap.size,0,none⟩ 5) (.int .i64) fun x150=>
         C20 (IntKind.i64.wrap (0 - r111)) 0 z113.drew fun r151 z152=>
          vS144 z152 /\ C85 (r151.1,r151.2.1,r151.2.2.1,r151.2.2.2.1,r151.2.2.2.2.1,r151.2.2.2.2.2) (x145,x146,x147,x148,x149,x150) z152 fun r153 r154 z155=>
           St z155 ⟨z5.heap.size,0,none⟩ (.int .i64 (r153.1)) fun z156=>
           St z156 (.add ⟨z5.heap.size,0,none⟩ 1) (.int .i64 (r153.2.1)) fun z157=>
           St z157 (.add ⟨z5.heap.size,0,none⟩ 2) (.int .i64 (r153.2.2.1)) fun z158=>
           St z158 (.add ⟨z5.heap.size,0,none⟩ 3) (.int .i64 (r153.2.2.2.1)) fun z159=>
           St z159 (.add ⟨z5.heap.size,0,none⟩ 4) (.int .i64 (r153.2.2.2.2.1)) fun z160=>
           St z160 (.add ⟨z5.heap.size,0,none⟩ 5) (.int .i64 (r153.2.2.2.2.2)) fun z161=>
           Ld z161 ⟨z5.heap.size,0,none⟩ (.int .i64) fun x162=>
           Ld z161 (.add ⟨z5.heap.size,0,none⟩ 1) (.int .i64) fun x163=>
           Ld z161 (.add ⟨z5.heap.size,0,none⟩ 2) (.int .i64) fun x164=>
           Ld z161 (.add ⟨z5.heap.size,0,none⟩ 3) (.int .i64) fun x165=>
           Ld z161 (.add ⟨z5.heap.size,0,none⟩ 4) (.int .i64) fun x166=>
           Ld z161 (.add ⟨z5.heap.size,0,none⟩ 5) (.int .i64) fun x167=>
           R (x162,x163,x164,x165,x166,x167) r154 z161))))
def pl88 : Plan := (.q (.seq (.q (.q (.cond (.q .leaf) .leaf))) (.q (.seq (.q (.cond (.q .leaf) .leaf)) (.q (.seq (.q (.cond (.q .leaf) .leaf)) (.q (.seq (.q (.cond (.q .leaf) .leaf)) (.seq (.reg (.held [4] (.take 0 (.take 1 (.take 3 (.eff 2 none (.eff 4 (some [7]) (.take 5 (.take 6 (.eff 7 (some []) (.take 8 .done))))))))))) .leaf)))))))))
theorem T88 (g1 : TyA30) (m2 : Int × Int × Int × Int × Int × Int) (n3 : Int) (w : World) (R : (Int × Int × Int × Int × Int × Int) -> Int -> World -> Prop) (h : S88 g1 m2 n3 w R) : C88 g1 (m2.1,m2.2.1,m2.2.2.1,m2.2.2.2.1,m2.2.2.2.2.1,m2.2.2.2.2.2) n3 w R := by
 have e : fnT Tryz.prog ⟨FF,MAY,(fun _ _=> False)⟩ pl88 Tryz.f88 [.agg (Sig.cells LiA30 g1).toArray,.agg #[.int .i64 (m2.1),.int .i64 (m2.2.1),.int .i64 (m2.2.2.1),.int .i64 (m2.2.2.2.1),.int .i64 (m2.2.2.2.2.1),.int .i64 (m2.2.2.2.2.2)],.int .i64 n3] w [(.agg [(.int .i64),(.int .i64),(.int .i64),(.int .i64),(.int .i64),(.int .i64)]),(.one (.int .i64))] (fun s w=> R s.1 s.2 w) = S88 g1 m2 n3 w R := by kernel_rfl
 exact (fn_calls okF okM Tryz.func88 (by kernel_rfl) (by kernel_rfl) (e.mpr h)).mono fun _ _ ⟨s,he,hR⟩=> ⟨s.1,s.2,he,hR⟩
def S52L1 (w : World) (z5 : World) (z6 : World) (z8 : World) (z42 : World) (x174 : Slc) (R : (TyA38) -> Slc -> Int -> World -> Prop) (I177 : (Slc × Int) -> World -> Prop) (s175 : Slc × Int) (z176 : World) : Prop :=
 Br (decide (s175.2 < ((x174.len : Nat) : Int))) (0 <= s175.2 /\ s175.2 < (x174.len : Nat) /\ Nn x174.p fun a178=>
  Ld z176 (a178.add ((s175.2).toNat * 6)) (.int .i64) fun x179=>
  Ld z176 ((a178.add ((s175.2).toNat * 6)).add 1) (.int .i64) fun x180=>
  Ld z176 ((a178.add ((s175.2).toNat * 6)).add 2) (.int .i64) fun x181=>
  Ld z176 ((a178.add ((s175.2).toNat * 6)).add 3) .string fun x182=>
  Ld z176 ((a178.add ((s175.2).toNat * 6)).add 4) Slc.v fun x183=>
  Ld z176 ((a178.add ((s175.2).toNat * 6)).add 5) Slc.v fun x184=>
  Nw z176 (.cells #[.int .i64 0,.int .i64 0,.int .i64 0,.string (⟨#[]⟩ : ByteArray),Slc.v ((⟨none,0,0⟩ : Slc)),Slc.v ((⟨none,0,0⟩ : Slc))] 61) fun z185=>
  St z185 ⟨z176.heap.size,0,none⟩ (.int .i64 x179) fun z186=>
  St z186 (.add ⟨z176.heap.size,0,none⟩ 1) (.int .i64 x180) fun z187=>
  St z187 (.add ⟨z176.heap.size,0,none⟩ 2) (.int .i64 x181) fun z188=>
  St z188 (.add ⟨z176.heap.size,0,none⟩ 3) (.string x182) fun z189=>
  St z189 (.add ⟨z176.heap.size,0,none⟩ 4) (Slc.v x183) fun z190=>
  St z190 (.add ⟨z176.heap.size,0,none⟩ 5) (Slc.v x184) fun z191=>
  Ld z191 ⟨z176.heap.size,0,none⟩ (.int .i64) fun x192=>
  Br (x192 == 4) (LdT z191 ⟨z42.heap.size,0,none⟩ 0 LiA38 fun (x193 : TyA38)=>
   LdT z191 ⟨z5.heap.size,0,none⟩ 0 LiA30 fun (x194 : TyA30)=>
   LdT z191 ⟨z6.heap.size,0,none⟩ 0 LiA34 fun (x195 : TyA34)=>
   Ld z191 (.add ⟨z176.heap.size,0,none⟩ 3) .string fun x196=>
   C50 x193 x194 x195 x196 z191 fun r197 r198 r199 z200=>
    Nw z200 (.cells #[.bool false,.int .i64 0,.int .i64 0,.int .i64 0,.int .i64 0,.int .i64 0,.int .i64 0,.int .i64 0,.int .i64 0,.int .i64 0,.int .i64 0,.int .i64 0,.int .i64 0] 39) fun z201=>
    StT ⟨z200.heap.size,0,none⟩ 0 LiA38 r197 z201 fun z202=>
    Br (r199 != 0) (LdT z202 ⟨w.heap.size,0,none⟩ 0 LiA38 fun (x203 : TyA38)=>
     StT ⟨z8.heap.size,0,none⟩ 0 LiA38 x203 z202 fun z204=>
     LdT z204 ⟨z8.heap.size,0,none⟩ 0 LiA38 fun (x205 : TyA38)=>
     R x205 (⟨none,0,0⟩ : Slc) r199 z204) (∃ vS206 : World -> Prop,vS206 z202.drew /\ LdST vS206 ⟨z200.heap.size,0,none⟩ 0 LiA38 fun (x207 : TyA38)=>
     Rn Tryz.prog (Builtin.append_ #[49,49] 49 #[Slc.v s175.1,Slc.v r198]) z202.drew Slc.v fun (x208 : Slc) z209=>
     vS206 z209 /\ StT ⟨z42.heap.size,0,none⟩ 0 LiA38 x207 z209 fun z210=>
     Br (decide (((x208.len : Nat) : Int) > 16384)) (LdT z210 ⟨w.heap.size,0,none⟩ 0 LiA38 fun (x211 : TyA38)=>
      StT ⟨z8.heap.size,0,none⟩ 0 LiA38 x211 z210 fun z212=>
      LdT z212 ⟨z8.heap.size,0,none⟩ 0 LiA38 fun (x213 : TyA38)=>
      R x213 (⟨none,0,0⟩ : Slc) 6 z212) (I177 (x208,IntKind.i64.wrap (s175.2 + 1)) z210))) (Ld z191 ⟨z176.heap.size,0,none⟩ (.int .i64) fun x214=>
   Ld z191 (.add ⟨z176.heap.size,0,none⟩ 1) (.int .i64) fun x215=>
   Ld z191 (.add ⟨z176.heap.size,0,none⟩ 2) (.int .i64) fun x216=>
   Ld z191 (.add ⟨z176.heap.size,0,none⟩ 3) .string fun x217=>
   Ld z191 (.add ⟨z176.heap.size,0,none⟩ 4) Slc.v fun x218=>
   Ld z191 (.add ⟨z176.heap.size,0,none⟩ 5) Slc.v fun x219=>
   C84 (x214,x215,x216,x217,x218,x219) z191 fun r220 r221 z222=>
    LdT z222 ⟨z5.heap.size,0,none⟩ 0 LiA30 fun (x223 : TyA30)=>
    Ld z222 (.add ⟨z42.heap.size,0,none⟩ 1) (.int .i64) fun x224=>
    Ld z222 (((⟨z42.heap.size,0,none⟩ : Addr).add 1).add 1) (.int .i64) fun x225=>
    Ld z222 (((⟨z42.heap.size,0,none⟩ : Addr).add 1).add 2) (.int .i64) fun x226=>
    Ld z222 (((⟨z42.heap.size,0,none⟩ : Addr).add 1).add 3) (.int .i64) fun x227=>
    Ld z222 (((⟨z42.heap.size,0,none⟩ : Addr).add 1).add 4) (.int .i64) fun x228=>
    Ld z222 (((⟨z42.heap.size,0,none⟩ : Addr).add 1).add 5) (.int .i64) fun x229=>
    C88 x223 (x224,x225,x226,x227,x228,x229) r220 z222 fun r230 r231 z232=>
     Nw z232 (.cells #[.int .i64 0,.int .i64 0,.int .i64 0,.int .i64 0,.int .i64 0,.int .i64 0] 24) fun z233=>
     St z233 ⟨z232.heap.size,0,none⟩ (.int .i64 (r230.1)) fun z234=>
     St z234 (.add ⟨z232.heap.size,0,none⟩ 1) (.int .i64 (r230.2.1)) fun z235=>
     St z235 (.add ⟨z232.heap.size,0,none⟩ 2) (.int .i64 (r230.2.2.1)) fun z236=>
     St z236 (.add ⟨z232.heap.size,0,none⟩ 3) (.int .i64 (r230.2.2.2.1)) fun z237=>
     St z237 (.add ⟨z232.heap.size,0,none⟩ 4) (.int .i64 (r230.2.2.2.2.1)) fun z238=>
     St z238 (.add ⟨z232.heap.size,0,none⟩ 5) (.int .i64 (r230.2.2.2.2.2)) fun z239=>
     Br (r231 != 0) (LdT z239 ⟨w.heap.size,0,none⟩ 0 LiA38 fun (x240 : TyA38)=>
      StT ⟨z8.heap.size,0,none⟩ 0 LiA38 x240 z239 fun z241=>
      LdT z241 ⟨z8.heap.size,0,none⟩ 0 LiA38 fun (x242 : TyA38)=>
      R x242 (⟨none,0,0⟩ : Slc) r231 z241) (Ld z239 ⟨z232.heap.size,0,none⟩ (.int .i64) fun x243=>
      Ld z239 (.add ⟨z232.heap.size,0,none⟩ 1) (.int .i64) fun x244=>
      Ld z239 (.add ⟨z232.heap.size,0,none⟩ 2) (.int .i64) fun x245=>
      Ld z239 (.add ⟨z232.heap.size,0,none⟩ 3) (.int .i64) fun x246=>
      Ld z239 (.add ⟨z232.heap.size,0,none⟩ 4) (.int .i64) fun x247=>
      Ld z239 (.add ⟨z232.heap.size,0,none⟩ 5) (.int .i64) fun x248=>
      St z239 (.add ⟨z42.heap.size,0,none⟩ 1) (.int .i64 x243) fun z249=>
      St z249 (((⟨z42.heap.size,0,none⟩ : Addr).add 1).add 1) (.int .i64 x244) fun z250=>
      St z250 (((⟨z42.heap.size,0,none⟩ : Addr).add 1).add 2) (.int .i64 x245) fun z251=>
      St z251 (((⟨z42.heap.size,0,none⟩ : Addr).add 1).add 3) (.int .i64 x246) fun z252=>
      St z252 (((⟨z42.heap.size,0,none⟩ : Addr).add 1).add 4) (.int .i64 x247) fun z253=>
      St z253 (((⟨z42.heap.size,0,none⟩ : Addr).add 1).add 5) (.int .i64 x248) fun z254=>
      I177 (s175.1,IntKind.i64.wrap (s175.2 + 1)) z254))) (LdT z176 ⟨z42.heap.size,0,none⟩ 0 LiA38 fun (x255 : TyA38)=>
  StT ⟨z8.heap.size,0,none⟩ 0 LiA38 x255 z176 fun z256=>
  LdT z256 ⟨z8.heap.size,0,none⟩ 0 LiA38 fun (x257 : TyA38)=>
  R x257 s175.1 0 z256)
def S52L2 (w : World) (z5 : World) (z6 : World) (z7 : World) (z8 : World) (x40 : Slc) (R : (TyA38) -> Slc -> Int -> World -> Prop) (I43 : Int -> World -> Prop) (s41 : Int) (z42 : World) : Prop :=
 Br (decide (s41 < ((x40.len : Nat) : Int))) (0 <= s41 /\ s41 < (x40.len : Nat) /\ Nn x40.p fun a44=>
  Ld z42 (a44.add ((s41).toNat * 6)) (.int .i64) fun x45=>
  Ld z42 ((a44.add ((s41).toNat * 6)).add 1) (.int .i64) fun x46=>
  Ld z42 ((a44.add ((s41).toNat * 6)).add 2) (.int .i64) fun x47=>
  Ld z42 ((a44.add ((s41).toNat * 6)).add 3) .string fun x48=>
  Ld z42 ((a44.add ((s41).toNat * 6)).add 4) Slc.v fun x49=>
  Ld z42 ((a44.add ((s41).toNat * 6)).add 5) Slc.v fun x50=>
  Nw z42 (.cells #[.int .i64 0,.int .i64 0,.int .i64 0,.string (⟨#[]⟩ : ByteArray),Slc.v ((⟨none,0,0⟩ : Slc)),Slc.v ((⟨none,0,0⟩ : Slc))] 61) fun z51=>
  St z51 ⟨z42.heap.size,0,none⟩ (.int .i64 x45) fun z52=>
  St z52 (.add ⟨z42.heap.size,0,none⟩ 1) (.int .i64 x46) fun z53=>
  St z53 (.add ⟨z42.heap.size,0,none⟩ 2) (.int .i64 x47) fun z54=>
  St z54 (.add ⟨z42.heap.size,0,none⟩ 3) (.string x48) fun z55=>
  St z55 (.add ⟨z42.heap.size,0,none⟩ 4) (Slc.v x49) fun z56=>
  St z56 (.add ⟨z42.heap.size,0,none⟩ 5) (Slc.v x50) fun z57=>
  Ld z57 ⟨z42.heap.size,0,none⟩ (.int .i64) fun x58=>
  Ld z57 (.add ⟨z42.heap.size,0,none⟩ 1) (.int .i64) fun x59=>
  Ld z57 (.add ⟨z42.heap.size,0,none⟩ 2) (.int .i64) fun x60=>
  Ld z57 (.add ⟨z42.heap.size,0,none⟩ 3) .string fun x61=>
  Ld z57 (.add ⟨z42.heap.size,0,none⟩ 4) Slc.v fun x62=>
  Ld z57 (.add ⟨z42.heap.size,0,none⟩ 5) Slc.v fun x63=>
  C84 (x58,x59,x60,x61,x62,x63) z57 fun r64 r65 z66=>
   Br (!r65) (Ld z66 ⟨z42.heap.size,0,none⟩ (.int .i64) fun x67=>
    Br (x67 != 4) (LdT z66 ⟨w.heap.size,0,none⟩ 0 LiA38 fun (x68 : TyA38)=>
     StT ⟨z8.heap.size,0,none⟩ 0 LiA38 x68 z66 fun z69=>
     LdT z69 ⟨z8.heap.size,0,none⟩ 0 LiA38 fun (x70 : TyA38)=>
     R x70 (⟨none,0,0⟩ : Slc) 28 z69) (I43 (IntKind.i64.wrap (s41 + 1)) z66)) (I43 (IntKind.i64.wrap (s41 + 1)) z66)) (LdT z42 ⟨w.heap.size,0,none⟩ 0 LiA38 fun (x71 : TyA38)=>
  Nw z42 (.cells #[.bool false,.int .i64 0,.int .i64 0,.int .i64 0,.int .i64 0,.int .i64 0,.int .i64 0,.int .i64 0,.int .i64 0,.int .i64 0,.int .i64 0,.int .i64 0,.int .i64 0] 39) fun z72=>
  StT ⟨z42.heap.size,0,none⟩ 0 LiA38 x71 z72 fun z73=>
  Ld z73 (.add ⟨z7.heap.size,0,none⟩ 5) Slc.v fun x174=>
  Lp (σ := Slc × Int) (S52L1 w z5 z6 z8 z42 x174 R) ((⟨none,0,0⟩ : Slc),0) z73)
def S52 (x1 : TyA38) (g2 : TyA30) (f3 : TyA34) (o4 : Int × Int × Int × ByteArray × Slc × Slc) (w : World) (R : (TyA38) -> Slc -> Int -> World -> Prop) : Prop :=
 Nw w (.cells (Sig.cells LiA38 x1).toArray 39) fun z5=>
 Nw z5 (.cells (Sig.cells LiA30 g2).toArray 31) fun z6=>
 Nw z6 (.cells (Sig.cells LiA34 f3).toArray 35) fun z7=>
 Nw z7 (.cells #[.int .i64 (o4.1),.int .i64 (o4.2.1),.int .i64 (o4.2.2.1),.string o4.2.2.2.1,Slc.v o4.2.2.2.2.1,Slc.v o4.2.2.2.2.2] 61) fun z8=>
 Nw z8 (.cells #[.bool false,.int .i64 0,.int .i64 0,.int .i64 0,.int .i64 0,.int .i64 0,.int .i64 0,.int .i64 0,.int .i64 0,.int .i64 0,.int .i64 0,.int .i64 0,.int .i64 0] 39) fun z9=>
 Ld z9 (.add ⟨z7.heap.size,0,none⟩ 5) Slc.v fun x40=>
 Lp (σ := Int) (S52L2 w z5 z6 z7 z8 x40 R) 0 z9
def pl52 : Plan := (.q (.seq (.q (.block (.loop [(29,(.one (.int .i64)))] [4,5,6,7,8,27,28] (.q (.seq (.cond .leaf .leaf) (.seq (.block (.q (.q (.q (.cond (.q .leaf) .leaf))))) (.reg .seq))))))) (.q (.q (.seq (.q (.block (.loop [(16,(.one .slc)),(51,(.one (.int .i64)))] [4,5,6,8,15,49,50] (.q (.seq (.cond .leaf .leaf) (.seq (.block (.q (.seq (.q (.cond (.q (.seq (.q (.cond (.q .leaf) .leaf)) (.seq (.reg (.held [4] (.take 0 (.take 1 (.take 2 (.eff 3 none (.eff 4 (some []) (.take 5 .done)))))))) (.seq (.q (.cond (.q .leaf) .leaf)) .leaf)))) .leaf)) (.q (.q (.seq (.q (.cond (.q .leaf) .leaf)) (.reg .seq))))))) (.reg .seq))))))) (.q .leaf))))))
theorem T52 (x1 : TyA38) (g2 : TyA30) (f3 : TyA34) (o4 : Int × Int × Int × ByteArray × Slc × Slc) (w : World) (R : (TyA38) -> Slc -> Int -> World -> Prop) (h : S52 x1 g2 f3 o4 w R) : C52 x1 g2 f3 (o4.1,o4.2.1,o4.2.2.1,o4.2.2.2.1,o4.2.2.2.2.1,o4.2.2.2.2.2) w R := by
 have e : fnT Tryz.prog ⟨FF,MAY,(fun _ _=> False)⟩ pl52 Tryz.f52 [.agg (Sig.cells LiA38 x1).toArray,.agg (Sig.cells LiA30 g2).toArray,.agg (Sig.cells LiA34 f3).toArray,.agg #[.int .i64 (o4.1),.int .i64 (o4.2.1),.int .i64 (o4.2.2.1),.string o4.2.2.2.1,Slc.v o4.2.2.2.2.1,Slc.v o4.2.2.2.2.2]] w [(.agg [.bool,(.int .i64),(.int .i64),(.int .i64),(.int .i64),(.int .i64),(.int .i64),(.int .i64),(.int .i64),(.int .i64),(.int .i64),(.int .i64),(.int .i64)]),(.one .slc),(.one (.int .i64))] (fun s w=> R s.1 s.2.1 s.2.2 w) = S52 x1 g2 f3 o4 w R := by kernel_rfl
 exact (fn_calls okF okM Tryz.func52 (by kernel_rfl) (by kernel_rfl) (e.mpr h)).mono fun _ _ ⟨s,he,hR⟩=> ⟨s.1,s.2.1,s.2.2,he,hR⟩
def S14J1 (w : World) (z5 : World) (z6 : World) (z7 : World) (z8 : World) (r48 : Slc) (x217 : ByteArray) (R : (TyA38) -> Slc -> Int -> World -> Prop) (s228 : Bool) (z229 : World) : Prop :=
 Br s228 (∃ vS230 : World -> Prop,vS230 z229.drew /\ LdST vS230 ⟨w.heap.size,0,none⟩ 0 LiA38 fun (x231 : TyA38)=>
  0 <= (0 : Int) /\ (0 : Int) < (r48.len : Nat) /\ Nn r48.p fun a232=>
  LdS vS230 (a232.add (((0 : Int)).toNat * 1)) (.int .i64) fun x233=>
  0 <= (1 : Int) /\ (1 : Int) < (r48.len : Nat) /\ Nn r48.p fun a234=>
  LdS vS230 (a234.add (((1 : Int)).toNat * 1)) (.int .i64) fun x235=>
  (C48 x231 x233 x235 z229.drew fun r236 r237 z238=>
    Nw z238 (.cells #[.bool false,.int .i64 0,.int .i64 0,.int .i64 0,.int .i64 0,.int .i64 0,.int .i64 0,.int .i64 0,.int .i64 0,.int .i64 0,.int .i64 0,.int .i64 0,.int .i64 0] 39) fun z239=>
    StT ⟨z238.heap.size,0,none⟩ 0 LiA38 r236 z239 fun z240=>
    LdT z240 ⟨z238.heap.size,0,none⟩ 0 LiA38 fun (x241 : TyA38)=>
    StT ⟨z8.heap.size,0,none⟩ 0 LiA38 x241 z240 fun z242=>
    LdT z242 ⟨z8.heap.size,0,none⟩ 0 LiA38 fun (x243 : TyA38)=>
    R x243 (⟨none,0,0⟩ : Slc) r237 z242) /\
  (Nw z229.drew (.cells #[.bool false,.int .i64 0,.int .i64 0,.int .i64 0,.int .i64 0,.int .i64 0,.int .i64 0,.int .i64 0,.int .i64 0,.int .i64 0,.int .i64 0,.int .i64 0,.int .i64 0] 39) fun z244=>
   vS230 z244 /\ C48 x231 x233 x235 z244 fun r245 r246 z247=>
    StT ⟨z229.drew.heap.size,0,none⟩ 0 LiA38 r245 z247 fun z248=>
    LdT z248 ⟨z229.drew.heap.size,0,none⟩ 0 LiA38 fun (x249 : TyA38)=>
    StT ⟨z8.heap.size,0,none⟩ 0 LiA38 x249 z248 fun z250=>
    LdT z250 ⟨z8.heap.size,0,none⟩ 0 LiA38 fun (x251 : TyA38)=>
    R x251 (⟨none,0,0⟩ : Slc) r246 z250)) (Br (x217.toList == (⟨#[84,42]⟩ : ByteArray).toList) (LdT z229 ⟨z6.heap.size,0,none⟩ 0 LiA30 fun (x252 : TyA30)=>
   C18 x252 z229 fun r253 z254=>
    Br (r253 != 0) (LdT z254 ⟨w.heap.size,0,none⟩ 0 LiA38 fun (x255 : TyA38)=>
     StT ⟨z8.heap.size,0,none⟩ 0 LiA38 x255 z254 fun z256=>
     LdT z256 ⟨z8.heap.size,0,none⟩ 0 LiA38 fun (x257 : TyA38)=>
     R x257 (⟨none,0,0⟩ : Slc) r253 z256) (LdT z254 ⟨w.heap.size,0,none⟩ 0 LiA38 fun (x258 : TyA38)=>
     Ld z254 (((⟨z6.heap.size,0,none⟩ : Addr).add 22).add 3) (.int .i64) fun x259=>
     C48 x258 0 (IntKind.i64.wrap (0 - x259)) z254 fun r260 r261 z262=>
      Nw z262 (.cells #[.bool false,.int .i64 0,.int .i64 0,.int .i64 0,.int .i64 0,.int .i64 0,.int .i64 0,.int .i64 0,.int .i64 0,.int .i64 0,.int .i64 0,.int .i64 0,.int .i64 0] 39) fun z263=>
      StT ⟨z262.heap.size,0,none⟩ 0 LiA38 r260 z263 fun z264=>
      LdT z264 ⟨z262.heap.size,0,none⟩ 0 LiA38 fun (x265 : TyA38)=>
      StT ⟨z8.heap.size,0,none⟩ 0 LiA38 x265 z264 fun z266=>
      LdT z266 ⟨z8.heap.size,0,none⟩ 0 LiA38 fun (x267 : TyA38)=>
      R x267 (⟨none,0,0⟩ : Slc) r261 z266)) (Br (x217.toList == (⟨#[84,109]⟩ : ByteArray).toList) (∃ vS268 : World -> Prop,vS268 z229.drew /\ 0 <= (0 : Int) /\ (0 : Int) < (r48.len : Nat) /\ Nn r48.p fun a269=>
    LdS vS268 (a269.add (((0 : Int)).toNat * 1)) (.int .i64) fun x270=>
    0 <= (1 : Int) /\ (1 : Int) < (r48.len : Nat) /\ Nn r48.p fun a271=>
    LdS vS268 (a271.add (((1 : Int)).toNat * 1)) (.int .i64) fun x272=>
    0 <= (2 : Int) /\ (2 : Int) < (r48.len : Nat) /\ Nn r48.p fun a273=>
    LdS vS268 (a273.add (((2 : Int)).toNat * 1)) (.int .i64) fun x274=>
    0 <= (3 : Int) /\ (3 : Int) < (r48.len : Nat) /\ Nn r48.p fun a275=>
    LdS vS268 (a275.add (((3 : Int)).toNat * 1)) (.int .i64) fun x276=>
    0 <= (4 : Int) /\ (4 : Int) < (r48.len : Nat) /\ Nn r48.p fun a277=>
    LdS vS268 (a277.add (((4 : Int)).toNat * 1)) (.int .i64) fun x278=>
    0 <= (5 : Int) /\ (5 : Int) < (r48.len : Nat) /\ Nn r48.p fun a279=>
    LdS vS268 (a279.add (((5 : Int)).toNat * 1)) (.int .i64) fun x280=>
    Nw z229.drew (.cells #[.int .i64 0,.int .i64 0,.int .i64 0,.int .i64 0,.int .i64 0,.int .i64 0] 24) fun z281=>
    vS268 z281 /\ St z281 ⟨z229.drew.heap.size,0,none⟩ (.int .i64 x270) fun z282=>
    St z282 (.add ⟨z229.drew.heap.size,0,none⟩ 1) (.int .i64 x272) fun z283=>
    St z283 (.add ⟨z229.drew.heap.size,0,none⟩ 2) (.int .i64 x274) fun z284=>
    St z284 (.add ⟨z229.drew.heap.size,0,none⟩ 3) (.int .i64 x276) fun z285=>
    St z285 (.add ⟨z229.drew.heap.size,0,none⟩ 4) (.int .i64 x278) fun z286=>
    St z286 (.add ⟨z229.drew.heap.size,0,none⟩ 5) (.int .i64 x280) fun z287=>
    Ld z287 ⟨z229.drew.heap.size,0,none⟩ (.int .i64) fun x288=>
    Ld z287 (.add ⟨z229.drew.heap.size,0,none⟩ 1) (.int .i64) fun x289=>
    Ld z287 (.add ⟨z229.drew.heap.size,0,none⟩ 2) (.int .i64) fun x290=>
    Ld z287 (.add ⟨z229.drew.heap.size,0,none⟩ 3) (.int .i64) fun x291=>
    Ld z287 (.add ⟨z229.drew.heap.size,0,none⟩ 4) (.int .i64) fun x292=>
    Ld z287 (.add ⟨z229.drew.heap.size,0,none⟩ 5) (.int .i64) fun x293=>
    C49 (x288,x289,x290,x291,x292,x293) z287 fun r294 z295=>
     Br (r294 != 0) (LdT z295 ⟨w.heap.size,0,none⟩ 0 LiA38 fun (x296 : TyA38)=>
      StT ⟨z8.heap.size,0,none⟩ 0 LiA38 x296 z295 fun z297=>
      LdT z297 ⟨z8.heap.size,0,none⟩ 0 LiA38 fun (x298 : TyA38)=>
      R x298 (⟨none,0,0⟩ : Slc) r294 z297) (Ld z295 ⟨z229.drew.heap.size,0,none⟩ (.int .i64) fun x299=>
      Ld z295 (.add ⟨z229.drew.heap.size,0,none⟩ 1) (.int .i64) fun x300=>
      Ld z295 (.add ⟨z229.drew.heap.size,0,none⟩ 2) (.int .i64) fun x301=>
      Ld z295 (.add ⟨z229.drew.heap.size,0,none⟩ 3) (.int .i64) fun x302=>
      Ld z295 (.add ⟨z229.drew.heap.size,0,none⟩ 4) (.int .i64) fun x303=>
      Ld z295 (.add ⟨z229.drew.heap.size,0,none⟩ 5) (.int .i64) fun x304=>
      Ld z295 ⟨z229.drew.heap.size,0,none⟩ (.int .i64) fun x305=>
      Ld z295 (.add ⟨z229.drew.heap.size,0,none⟩ 1) (.int .i64) fun x306=>
      Ld z295 (.add ⟨z229.drew.heap.size,0,none⟩ 2) (.int .i64) fun x307=>
      Ld z295 (.add ⟨z229.drew.heap.size,0,none⟩ 3) (.int .i64) fun x308=>
      Ld z295 (.add ⟨z229.drew.heap.size,0,none⟩ 4) (.int .i64) fun x309=>
      Ld z295 (.add ⟨z229.drew.heap.size,0,none⟩ 5) (.int .i64) fun x310=>
      StT ⟨z8.heap.size,0,none⟩ 0 LiA38 ((true,x299,x300,x301,x302,x303,x304,x305,x306,x307,x308,x309,x310) : TyA38) z295 fun z311=>
      LdT z311 ⟨z8.heap.size,0,none⟩ 0 LiA38 fun (x312 : TyA38)=>
      R x312 (⟨none,0,0⟩ : Slc) 0 z311)) (Br (x217.toList == (⟨#[84,106]⟩ : ByteArray).toList) (∃ vS313 : World -> Prop,vS313 z229.drew /\ LdST vS313 ⟨w.heap.size,0,none⟩ 0 LiA38 fun (x314 : TyA38)=>
     LdST vS313 ⟨z6.heap.size,0,none⟩ 0 LiA30 fun (x315 : TyA30)=>
     LdST vS313 ⟨z7.heap.size,0,none⟩ 0 LiA34 fun (x316 : TyA34)=>
     LdS vS313 (.add ⟨z5.heap.size,0,none⟩ 1) Slc.v fun x317=>
     0 <= (0 : Int) /\ (0 : Int) < (x317.len : Nat) /\ Nn x317.p fun a318=>
     LdS vS313 ((a318.add (((0 : Int)).toNat * 6)).add 3) .string fun x319=>
     C50 x314 x315 x316 x319 z229.drew fun r320 r321 r322 z323=>
      StT ⟨z8.heap.size,0,none⟩ 0 LiA38 r320 z323 fun z324=>
      LdT z324 ⟨z8.heap.size,0,none⟩ 0 LiA38 fun (x325 : TyA38)=>
      R x325 r321 r322 z324) (Br (x217.toList == (⟨#[39]⟩ : ByteArray).toList) (∃ vS326 : World -> Prop,vS326 z229.drew /\ LdST vS326 ⟨w.heap.size,0,none⟩ 0 LiA38 fun (x327 : TyA38)=>
      LdST vS326 ⟨z6.heap.size,0,none⟩ 0 LiA30 fun (x328 : TyA30)=>
      LdST vS326 ⟨z7.heap.size,0,none⟩ 0 LiA34 fun (x329 : TyA34)=>
      LdS vS326 (.add ⟨z5.heap.size,0,none⟩ 1) Slc.v fun x330=>
      0 <= (0 : Int) /\ (0 : Int) < (x330.len : Nat) /\ Nn x330.p fun a331=>
      LdS vS326 ((a331.add (((0 : Int)).toNat * 6)).add 3) .string fun x332=>
      C51 x327 x328 x329 x332 z229.drew fun r333 r334 r335 z336=>
       StT ⟨z8.heap.size,0,none⟩ 0 LiA38 r333 z336 fun z337=>
       LdT z337 ⟨z8.heap.size,0,none⟩ 0 LiA38 fun (x338 : TyA38)=>
       R x338 r334 r335 z337) (Br (x217.toList == (⟨#[84,74]⟩ : ByteArray).toList) (∃ vS339 : World -> Prop,vS339 z229.drew /\ LdST vS339 ⟨w.heap.size,0,none⟩ 0 LiA38 fun (x340 : TyA38)=>
       LdST vS339 ⟨z6.heap.size,0,none⟩ 0 LiA30 fun (x341 : TyA30)=>
       LdST vS339 ⟨z7.heap.size,0,none⟩ 0 LiA34 fun (x342 : TyA34)=>
       LdS vS339 (.add ⟨z5.heap.size,0,none⟩ 1) Slc.v fun x343=>
       0 <= (0 : Int) /\ (0 : Int) < (x343.len : Nat) /\ Nn x343.p fun a344=>
       LdS vS339 (a344.add (((0 : Int)).toNat * 6)) (.int .i64) fun x345=>
       LdS vS339 ((a344.add (((0 : Int)).toNat * 6)).add 1) (.int .i64) fun x346=>
       LdS vS339 ((a344.add (((0 : Int)).toNat * 6)).add 2) (.int .i64) fun x347=>
       LdS vS339 ((a344.add (((0 : Int)).toNat * 6)).add 3) .string fun x348=>
       LdS vS339 ((a344.add (((0 : Int)).toNat * 6)).add 4) Slc.v fun x349=>
       LdS vS339 ((a344.add (((0 : Int)).toNat * 6)).add 5) Slc.v fun x350=>
       C52 x340 x341 x342 (x345,x346,x347,x348,x349,x350) z229.drew fun r351 r352 r353 z354=>
        StT ⟨z8.heap.size,0,none⟩ 0 LiA38 r351 z354 fun z355=>
        LdT z355 ⟨z8.heap.size,0,none⟩ 0 LiA38 fun (x356 : TyA38)=>
        R x356 r352 r353 z355) (∃ vS357 : World -> Prop,vS357 z229.drew /\ 0 <= (0 : Int) /\ (0 : Int) < (r48.len : Nat) /\ Nn r48.p fun a358=>
       LdS vS357 (a358.add (((0 : Int)).toNat * 1)) (.int .i64) fun x359=>
       0 <= (1 : Int) /\ (1 : Int) < (r48.len : Nat) /\ Nn r48.p fun a360=>
       LdS vS357 (a360.add (((1 : Int)).toNat * 1)) (.int .i64) fun x361=>
       St z229.drew (((⟨z6.heap.size,0,none⟩ : Addr).add 22).add 1) (.int .i64 x359) fun z362=>
       vS357 z362 /\ St z362 (.add ⟨z6.heap.size,0,none⟩ 22) (.int .i64 x361) fun z363=>
       ∃ vS364 : World -> Prop,vS364 z363.drew /\ LdST vS364 ⟨w.heap.size,0,none⟩ 0 LiA38 fun (x365 : TyA38)=>
       LdST vS364 ⟨z6.heap.size,0,none⟩ 0 LiA30 fun (x366 : TyA30)=>
       LdST vS364 ⟨z7.heap.size,0,none⟩ 0 LiA34 fun (x367 : TyA34)=>
       LdS vS364 (.add ⟨z5.heap.size,0,none⟩ 1) Slc.v fun x368=>
       0 <= (2 : Int) /\ (2 : Int) < (x368.len : Nat) /\ Nn x368.p fun a369=>
       LdS vS364 ((a369.add (((2 : Int)).toNat * 6)).add 3) .string fun x370=>
       C51 x365 x366 x367 x370 z363.drew fun r371 r372 r373 z374=>
        StT ⟨z8.heap.size,0,none⟩ 0 LiA38 r371 z374 fun z375=>
        LdT z375 ⟨z8.heap.size,0,none⟩ 0 LiA38 fun (x376 : TyA38)=>
        R x376 r372 r373 z375))))))
def S14 (x1 : TyA38) (o2 : ByteArray × Slc × ByteArray) (g3 : TyA30) (f4 : TyA34) (w : World) (R : (TyA38) -> Slc -> Int -> World -> Prop) : Prop :=
 Nw w (.cells (Sig.cells LiA38 x1).toArray 39) fun z5=>
 Nw z5 (.cells #[.string o2.1,Slc.v o2.2.1,.string o2.2.2] 48) fun z6=>
 Nw z6 (.cells (Sig.cells LiA30 g3).toArray 31) fun z7=>
 Nw z7 (.cells (Sig.cells LiA34 f4).toArray 35) fun z8=>
 Nw z8 (.cells #[.bool false,.int .i64 0,.int .i64 0,.int .i64 0,.int .i64 0,.int .i64 0,.int .i64 0,.int .i64 0,.int .i64 0,.int .i64 0,.int .i64 0,.int .i64 0,.int .i64 0] 39) fun z9=>
 Ld z9 ⟨z5.heap.size,0,none⟩ .string fun x15=>
 C45 x15 z9 fun r16 z17=>
  Br (!r16) (LdT z17 ⟨w.heap.size,0,none⟩ 0 LiA38 fun (x18 : TyA38)=>
   StT ⟨z8.heap.size,0,none⟩ 0 LiA38 x18 z17 fun z19=>
   LdT z19 ⟨z8.heap.size,0,none⟩ 0 LiA38 fun (x20 : TyA38)=>
   R x20 (⟨none,0,0⟩ : Slc) 8 z19) (Ld z17 ⟨z5.heap.size,0,none⟩ .string fun x28=>
   Ld z17 (.add ⟨z5.heap.size,0,none⟩ 1) Slc.v fun x29=>
   Ld z17 (.add ⟨z5.heap.size,0,none⟩ 2) .string fun x30=>
   C46 (x28,x29,x30) z17 fun r31 z32=>
    Br (r31 != 0) (LdT z32 ⟨w.heap.size,0,none⟩ 0 LiA38 fun (x33 : TyA38)=>
     StT ⟨z8.heap.size,0,none⟩ 0 LiA38 x33 z32 fun z34=>
     LdT z34 ⟨z8.heap.size,0,none⟩ 0 LiA38 fun (x35 : TyA38)=>
     R x35 (⟨none,0,0⟩ : Slc) r31 z34) (Ld z32 ⟨w.heap.size,0,none⟩ Value.bool fun (x40 : Bool)=>
     Ld z32 ⟨z5.heap.size,0,none⟩ .string fun x41=>
     Br (x40 == (x41.toList == (⟨#[66,84]⟩ : ByteArray).toList)) (LdT z32 ⟨w.heap.size,0,none⟩ 0 LiA38 fun (x42 : TyA38)=>
      StT ⟨z8.heap.size,0,none⟩ 0 LiA38 x42 z32 fun z43=>
      LdT z43 ⟨z8.heap.size,0,none⟩ 0 LiA38 fun (x44 : TyA38)=>
      R x44 (⟨none,0,0⟩ : Slc) 29 z43) (Ld z32 ⟨z5.heap.size,0,none⟩ .string fun x45=>
      Ld z32 (.add ⟨z5.heap.size,0,none⟩ 1) Slc.v fun x46=>
      Ld z32 (.add ⟨z5.heap.size,0,none⟩ 2) .string fun x47=>
      C47 (x45,x46,x47) z32 fun r48 r49 z50=>
       Br (r49 != 0) (LdT z50 ⟨w.heap.size,0,none⟩ 0 LiA38 fun (x53 : TyA38)=>
        StT ⟨z8.heap.size,0,none⟩ 0 LiA38 x53 z50 fun z54=>
        LdT z54 ⟨z8.heap.size,0,none⟩ 0 LiA38 fun (x55 : TyA38)=>
        R x55 (⟨none,0,0⟩ : Slc) r49 z54) (Ld z50 ⟨z5.heap.size,0,none⟩ .string fun x217=>
        Br (x217.toList == (⟨#[66,84]⟩ : ByteArray).toList) (C22 z50 fun r218 z219=>
          C22 z219 fun r220 z221=>
           StT ⟨z8.heap.size,0,none⟩ 0 LiA38 ((true,r218.1,r218.2.1,r218.2.2.1,r218.2.2.2.1,r218.2.2.2.2.1,r218.2.2.2.2.2,r220.1,r220.2.1,r220.2.2.1,r220.2.2.2.1,r220.2.2.2.2.1,r220.2.2.2.2.2) : TyA38) z221 fun z222=>
           LdT z222 ⟨z8.heap.size,0,none⟩ 0 LiA38 fun (x223 : TyA38)=>
           R x223 (⟨none,0,0⟩ : Slc) 0 z222) (Br (x217.toList == (⟨#[69,84]⟩ : ByteArray).toList) (C8 z50 fun r224 z225=>
           StT ⟨z8.heap.size,0,none⟩ 0 LiA38 r224 z225 fun z226=>
           LdT z226 ⟨z8.heap.size,0,none⟩ 0 LiA38 fun (x227 : TyA38)=>
           R x227 (⟨none,0,0⟩ : Slc) 0 z226) (Join (S14J1 w z5 z6 z7 z8 r48 x217 R) fun (vJ377 : Bool -> World -> Prop)=>
           Br (x217.toList == (⟨#[84,100]⟩ : ByteArray).toList) (vJ377 (x217.toList == (⟨#[84,100]⟩ : ByteArray).toList) z50) (vJ377 (x217.toList == (⟨#[84,68]⟩ : ByteArray).toList) z50)))))))
def pl14 : Plan := (.q (.seq (.q (.cond (.q .leaf) .leaf)) (.seq (.q (.q (.cond (.q .leaf) .leaf))) (.seq (.q (.cond (.q .leaf) .leaf)) (.q (.seq (.q (.cond (.q .leaf) .leaf)) (.seq (.q (.block (.q (.cond (.q .leaf) (.q (.cond (.q .leaf) (.join [(58,(.one .bool))] [4,5,6,7,8,12,49] (.q (.cond .leaf (.reg .seq))) (.cond (.seq (.reg (.held [7] (.take 0 (.take 1 (.take 2 (.take 3 (.take 4 (.take 5 (.take 6 (.effs 7 (some [11]) (.take 8 (.take 9 (.take 10 (.eff 11 (some [12]) (.eff 12 (some []) (.take 13 .done)))))) (.eff 11 none (.eff 7 (some [12]) (.take 8 (.take 9 (.take 10 (.eff 12 (some []) (.take 13 .done))))))))))))))))) (.q .leaf)) (.q (.cond (.seq (.q (.q (.cond (.q .leaf) .leaf))) (.q (.q .leaf))) (.q (.cond (.seq (.reg (.held [20] (.take 0 (.take 1 (.take 2 (.take 3 (.take 4 (.take 5 (.take 6 (.take 7 (.take 8 (.take 9 (.take 10 (.take 11 (.take 12 (.take 13 (.take 14 (.take 15 (.take 16 (.take 17 (.take 18 (.eff 19 none (.eff 20 (some []) .done))))))))))))))))))))))) (.seq (.q (.q (.cond (.q .leaf) .leaf))) (.q .leaf))) (.q (.cond (.seq (.reg (.held [8] (.take 0 (.take 1 (.take 2 (.take 3 (.take 4 (.take 5 (.take 6 (.take 7 (.eff 8 (some [12]) (.take 9 (.take 10 (.take 11 (.eff 12 (some []) (.take 13 (.take 14 .done))))))))))))))))) .leaf) (.q (.cond (.seq (.reg (.held [8] (.take 0 (.take 1 (.take 2 (.take 3 (.take 4 (.take 5 (.take 6 (.take 7 (.eff 8 (some [12]) (.take 9 (.take 10 (.take 11 (.eff 12 (some []) (.take 13 (.take 14 .done))))))))))))))))) .leaf) (.q (.cond (.seq (.reg (.held [7] (.take 0 (.take 1 (.take 2 (.take 3 (.take 4 (.take 5 (.take 6 (.eff 7 (some [11]) (.take 8 (.take 9 (.take 10 (.eff 11 (some []) (.take 12 (.take 13 .done)))))))))))))))) .leaf) .leaf)))))))))))))))))) (.seq (.reg (.held [11] (.take 0 (.take 1 (.take 2 (.take 3 (.take 4 (.take 5 (.take 6 (.take 7 (.eff 8 none (.take 9 (.take 10 (.eff 11 (some []) .done)))))))))))))) (.seq (.reg (.held [8] (.take 0 (.take 1 (.take 2 (.take 3 (.take 4 (.take 5 (.take 6 (.take 7 (.eff 8 (some [12]) (.take 9 (.take 10 (.take 11 (.eff 12 (some []) (.take 13 (.take 14 .done))))))))))))))))) .leaf)))))))))
theorem T14 (x1 : TyA38) (o2 : ByteArray × Slc × ByteArray) (g3 : TyA30) (f4 : TyA34) (w : World) (R : (TyA38) -> Slc -> Int -> World -> Prop) (h : S14 x1 o2 g3 f4 w R) : C14 x1 (o2.1,o2.2.1,o2.2.2) g3 f4 w R := by
 have e : fnT Tryz.prog ⟨FF,MAY,(fun _ _=> False)⟩ pl14 Tryz.f14 [.agg (Sig.cells LiA38 x1).toArray,.agg #[.string o2.1,Slc.v o2.2.1,.string o2.2.2],.agg (Sig.cells LiA30 g3).toArray,.agg (Sig.cells LiA34 f4).toArray] w [(.agg [.bool,(.int .i64),(.int .i64),(.int .i64),(.int .i64),(.int .i64),(.int .i64),(.int .i64),(.int .i64),(.int .i64),(.int .i64),(.int .i64),(.int .i64)]),(.one .slc),(.one (.int .i64))] (fun s w=> R s.1 s.2.1 s.2.2 w) = S14 x1 o2 g3 f4 w R := by kernel_rfl
 exact (fn_calls okF okM Tryz.func14 (by kernel_rfl) (by kernel_rfl) (e.mpr h)).mono fun _ _ ⟨s,he,hR⟩=> ⟨s.1,s.2.1,s.2.2,he,hR⟩
def S3L1 (w : World) (l1 : Slc) (z5 : World) (r7 : Option Addr) (z10 : World) (R : Bool -> World -> Prop) (I35 : Int -> World -> Prop) (s33 : Int) (z34 : World) : Prop :=
 Br (decide (s33 < ((l1.len : Nat) : Int))) (0 <= s33 /\ s33 < (l1.len : Nat) /\ Nn l1.p fun a36=>
  Ld z34 (a36.add ((s33).toNat * 3)) .string fun x37=>
  Ld z34 ((a36.add ((s33).toNat * 3)).add 1) Slc.v fun x38=>
  Ld z34 ((a36.add ((s33).toNat * 3)).add 2) .string fun x39=>
  Nw z34 (.cells #[.string (⟨#[]⟩ : ByteArray),Slc.v ((⟨none,0,0⟩ : Slc)),.string (⟨#[]⟩ : ByteArray)] 48) fun z40=>
  St z40 ⟨z34.heap.size,0,none⟩ (.string x37) fun z41=>
  St z41 (.add ⟨z34.heap.size,0,none⟩ 1) (Slc.v x38) fun z42=>
  St z42 (.add ⟨z34.heap.size,0,none⟩ 2) (.string x39) fun z43=>
  Ld z43 ⟨z34.heap.size,0,none⟩ .string fun x44=>
  Ld z43 (.add ⟨z34.heap.size,0,none⟩ 1) Slc.v fun x45=>
  Ld z43 (.add ⟨z34.heap.size,0,none⟩ 2) .string fun x46=>
  LdT z43 ⟨w.heap.size,0,none⟩ 0 LiA30 fun (x47 : TyA30)=>
  LdT z43 ⟨z5.heap.size,0,none⟩ 0 LiA34 fun (x48 : TyA34)=>
  C13 r7 (x44,x45,x46) x47 x48 z43 fun r49 r50 z51=>
   LdT z51 ⟨z10.heap.size,0,none⟩ 0 LiA38 fun (x52 : TyA38)=>
   Ld z51 ⟨z34.heap.size,0,none⟩ .string fun x53=>
   Ld z51 (.add ⟨z34.heap.size,0,none⟩ 1) Slc.v fun x54=>
   Ld z51 (.add ⟨z34.heap.size,0,none⟩ 2) .string fun x55=>
   LdT z51 ⟨w.heap.size,0,none⟩ 0 LiA30 fun (x56 : TyA30)=>
   LdT z51 ⟨z5.heap.size,0,none⟩ 0 LiA34 fun (x57 : TyA34)=>
   C14 x52 (x53,x54,x55) x56 x57 z51 fun r58 r59 r60 z61=>
    Nw z61 (.cells #[.bool false,.int .i64 0,.int .i64 0,.int .i64 0,.int .i64 0,.int .i64 0,.int .i64 0,.int .i64 0,.int .i64 0,.int .i64 0,.int .i64 0,.int .i64 0,.int .i64 0] 39) fun z62=>
    StT ⟨z61.heap.size,0,none⟩ 0 LiA38 r58 z62 fun z63=>
    LdT z63 ⟨z61.heap.size,0,none⟩ 0 LiA38 fun (x64 : TyA38)=>
    StT ⟨z10.heap.size,0,none⟩ 0 LiA38 x64 z63 fun z65=>
    C15 r49 r59 z65.drew fun r66 z67=>
     ∃ vS68 : World -> Prop,vS68 z67 /\ Br (!r66) (R false z67) (Br (r50 != r60) (R false z67) (LdS vS68 ⟨z10.heap.size,0,none⟩ Value.bool fun (x69 : Bool)=>
       C16 r7 z67 fun r70 z71=>
        vS68 z71 /\ Br (!(r70 == x69)) (R false z71) (LdS vS68 (.add ⟨z10.heap.size,0,none⟩ 1) (.int .i64) fun x72=>
         LdS vS68 (((⟨z10.heap.size,0,none⟩ : Addr).add 1).add 1) (.int .i64) fun x73=>
         LdS vS68 (((⟨z10.heap.size,0,none⟩ : Addr).add 1).add 2) (.int .i64) fun x74=>
         LdS vS68 (((⟨z10.heap.size,0,none⟩ : Addr).add 1).add 3) (.int .i64) fun x75=>
         LdS vS68 (((⟨z10.heap.size,0,none⟩ : Addr).add 1).add 4) (.int .i64) fun x76=>
         LdS vS68 (((⟨z10.heap.size,0,none⟩ : Addr).add 1).add 5) (.int .i64) fun x77=>
         C17 r7 z71 fun r78 z79=>
          vS68 z79 /\ Br (!((r78.1 == x72) && ((r78.2.1 == x73) && ((r78.2.2.1 == x74) && ((r78.2.2.2.1 == x75) && ((r78.2.2.2.2.1 == x76) && ((r78.2.2.2.2.2 == x77) && true))))))) (R false z79) (I35 (IntKind.i64.wrap (s33 + 1)) z79))))) (C10 z34 fun r80 z81=>
   R r80 z81)
def S3 (l1 : Slc) (g2 : TyA30) (f3 : TyA34) (code4 : Int) (w : World) (R : Bool -> World -> Prop) : Prop :=
 Nw w (.cells (Sig.cells LiA30 g2).toArray 31) fun z5=>
 Nw z5 (.cells (Sig.cells LiA34 f3).toArray 35) fun z6=>
 C7 z6 fun r7 z8=>
  C8 z8 fun r9 z10=>
   Nw z10 (.cells #[.bool false,.int .i64 0,.int .i64 0,.int .i64 0,.int .i64 0,.int .i64 0,.int .i64 0,.int .i64 0,.int .i64 0,.int .i64 0,.int .i64 0,.int .i64 0,.int .i64 0] 39) fun z11=>
   StT ⟨z10.heap.size,0,none⟩ 0 LiA38 r9 z11 fun z12=>
   Br r7.isNone (R false z12) (LdT z12 ⟨z5.heap.size,0,none⟩ 0 LiA34 fun (x18 : TyA34)=>
    C9 l1 x18 z12 fun r19 z20=>
     Br (!r19) (C10 z20 fun r21 z22=>
       R r21 z22) (LdT z20 ⟨w.heap.size,0,none⟩ 0 LiA30 fun (x23 : TyA30)=>
      LdT z20 ⟨z5.heap.size,0,none⟩ 0 LiA34 fun (x24 : TyA34)=>
      C11 x23 x24 code4 z20 fun r25 r26 z27=>
       LdT z27 ⟨w.heap.size,0,none⟩ 0 LiA30 fun (x28 : TyA30)=>
       LdT z27 ⟨z5.heap.size,0,none⟩ 0 LiA34 fun (x29 : TyA34)=>
       C12 x28 x29 code4 z27 fun r30 r31 z32=>
        Br (r25 != r30) (R false z32) (Br (r26 != r31) (R false z32) (Lp (σ := Int) (S3L1 w l1 z5 r7 z10 R) 0 z32))))
def pl3 : Plan := (.q (.q (.seq (.q (.cond (.q .leaf) .leaf)) (.seq (.q (.cond (.q .leaf) .leaf)) (.q (.q (.seq (.q (.cond (.q .leaf) .leaf)) (.seq (.q (.block (.loop [(55,(.one (.int .i64)))] [5,6,9,10,53,54] (.q (.seq (.cond .leaf .leaf) (.seq (.block (.q (.q (.q (.q (.seq (.reg (.held [2] (.take 0 (.take 1 (.eff 2 (some []) (.take 3 (.take 4 (.take 5 (.take 6 (.take 7 (.take 8 (.take 9 (.take 10 (.take 12 (.take 13 (.eff 11 none (.take 14 (.take 15 (.take 16 (.take 17 (.take 19 (.take 20 (.eff 18 none (.take 21 (.take 22 .done))))))))))))))))))))))))) (.cond (.q .leaf) .leaf))))))) (.reg .seq))))))) (.q .leaf)))))))))
theorem T3 (l1 : Slc) (g2 : TyA30) (f3 : TyA34) (code4 : Int) (w : World) (R : Bool -> World -> Prop) (h : S3 l1 g2 f3 code4 w R) : C3 l1 g2 f3 code4 w R := by
 have e : fnT Tryz.prog ⟨FF,MAY,(fun _ _=> False)⟩ pl3 Tryz.f3 [Slc.v l1,.agg (Sig.cells LiA30 g2).toArray,.agg (Sig.cells LiA34 f3).toArray,.int .i64 code4] w [(.one .bool)] (fun s w=> R s w) = S3 l1 g2 f3 code4 w R := by kernel_rfl
 exact (fn_calls okF okM Tryz.func3 (by kernel_rfl) (by kernel_rfl) (e.mpr h)).mono fun _ _ ⟨s,he,hR⟩=> ⟨s,he,hR⟩
end Go.Proofs.YtcblpehnkogfdaaGreatDoor
