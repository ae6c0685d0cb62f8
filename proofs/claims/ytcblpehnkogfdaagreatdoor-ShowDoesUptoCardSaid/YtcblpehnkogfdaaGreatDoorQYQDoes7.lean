/- The formulas of 15 functions of the program, written by program (gen.py); the kernel checks each. No condition. -/
import Derived.Test.YtcblpehnkogfdaaGreatDoorQYQDoes2
import Derived.Test.YtcblpehnkogfdaaGreatDoorQYQDoes3
import Derived.Test.YtcblpehnkogfdaaGreatDoorQYQDoes4
import Derived.Test.YtcblpehnkogfdaaGreatDoorQYQDoes5
import Derived.Test.YtcblpehnkogfdaaGreatDoorQYQDoes6
set_option linter.unusedVariables false
set_option linter.unusedSimpArgs false
namespace Go.Proofs.YtcblpehnkogfdaaGreatDoor
set_option maxRecDepth 100000
open Sh
set_option maxRecDepth 100000
def CD38 (c1 : Addr) (c2 : Addr) (u : Option Value) (w : World) (R : World -> Prop) : Prop := CallD Tryz.prog 38 #[.pointer (some c1),.pointer (some c2)] u w R
def C40 (name1 : ByteArray) (w : World) (R : Bool -> World -> Prop) : Prop :=
 Calls Tryz.prog 40 #[.string name1] w fun e w'=> ∃ r0 : Bool,e = .returned (.bool r0) /\ R r0 w'
theorem C40.mono {name1 : ByteArray} {w : World} {R R' : Bool -> World -> Prop} (h : C40 name1 w R) (hr : ∀ r0 w',R r0 w' -> R' r0 w') : C40 name1 w R' :=
 Calls.mono h fun _ _ ⟨r0,he,hR⟩=> ⟨r0,he,hr _ _ hR⟩
def C41 (x1 : ByteArray × Slc × ByteArray) (why2 : Int) (w : World) (R : (ByteArray × Slc × ByteArray) -> World -> Prop) (PR : Value -> World -> Prop) : Prop :=
 Calls Tryz.prog 41 #[.agg #[.string x1.1,Slc.v x1.2.1,.string x1.2.2],.int .i64 why2] w fun e w'=> (∃ r0 : ByteArray × Slc × ByteArray,e = .returned (.agg #[.string r0.1,Slc.v r0.2.1,.string r0.2.2]) /\ R r0 w') \/ ∃ v,e = .panicked (onePanic v) /\ PR v w'
theorem C41.mono {x1 : ByteArray × Slc × ByteArray} {why2 : Int} {w : World} {R R' : (ByteArray × Slc × ByteArray) -> World -> Prop} {PR PR' : Value -> World -> Prop} (h : C41 x1 why2 w R PR) (hr : ∀ r0 w',R r0 w' -> R' r0 w') (hp : ∀ v w',PR v w' -> PR' v w') : C41 x1 why2 w R' PR' :=
 Calls.mono h fun _ _ he=> he.elim (fun ⟨r0,he,hR⟩=> .inl ⟨r0,he,hr _ _ hR⟩) fun ⟨v,he,hP⟩=> .inr ⟨v,he,hp _ _ hP⟩
def C75 (x1 : Slc) (why2 : Int) (w : World) (R : Slc -> World -> Prop) (PR : Value -> World -> Prop) : Prop :=
 Calls Tryz.prog 75 #[Slc.v x1,.int .i64 why2] w fun e w'=> (∃ r0 : Slc,e = .returned (Slc.v r0) /\ R r0 w') \/ ∃ v,e = .panicked (onePanic v) /\ PR v w'
theorem C75.mono {x1 : Slc} {why2 : Int} {w : World} {R R' : Slc -> World -> Prop} {PR PR' : Value -> World -> Prop} (h : C75 x1 why2 w R PR) (hr : ∀ r0 w',R r0 w' -> R' r0 w') (hp : ∀ v w',PR v w' -> PR' v w') : C75 x1 why2 w R' PR' :=
 Calls.mono h fun _ _ he=> he.elim (fun ⟨r0,he,hR⟩=> .inl ⟨r0,he,hr _ _ hR⟩) fun ⟨v,he,hP⟩=> .inr ⟨v,he,hp _ _ hP⟩
def C43 (o1 : ByteArray × Slc × ByteArray) (w : World) (R : Slc -> World -> Prop) (PR : Value -> World -> Prop) : Prop :=
 Calls Tryz.prog 43 #[.agg #[.string o1.1,Slc.v o1.2.1,.string o1.2.2]] w fun e w'=> (∃ r0 : Slc,e = .returned (Slc.v r0) /\ R r0 w') \/ ∃ v,e = .panicked (onePanic v) /\ PR v w'
theorem C43.mono {o1 : ByteArray × Slc × ByteArray} {w : World} {R R' : Slc -> World -> Prop} {PR PR' : Value -> World -> Prop} (h : C43 o1 w R PR) (hr : ∀ r0 w',R r0 w' -> R' r0 w') (hp : ∀ v w',PR v w' -> PR' v w') : C43 o1 w R' PR' :=
 Calls.mono h fun _ _ he=> he.elim (fun ⟨r0,he,hR⟩=> .inl ⟨r0,he,hr _ _ hR⟩) fun ⟨v,he,hP⟩=> .inr ⟨v,he,hp _ _ hP⟩
def C7 (w : World) (R : Option Addr -> World -> Prop) : Prop :=
 Calls Tryz.prog 7 #[] w fun e w'=> ∃ r0 : Option Addr,e = .returned (.pointer r0) /\ R r0 w'
theorem C7.mono {w : World} {R R' : Option Addr -> World -> Prop} (h : C7 w R) (hr : ∀ r0 w',R r0 w' -> R' r0 w') : C7 w R' :=
 Calls.mono h fun _ _ ⟨r0,he,hR⟩=> ⟨r0,he,hr _ _ hR⟩
def C77 (t1 : Option Addr) (x2 : Int) (y3 : Int) (w : World) (R : World -> Prop) (PR : Value -> World -> Prop) : Prop :=
 Calls Tryz.prog 77 #[.pointer t1,.int .i64 x2,.int .i64 y3] w fun e w'=> (e = .returned (.tuple #[]) /\ R w') \/ ∃ v,e = .panicked (onePanic v) /\ PR v w'
theorem C77.mono {t1 : Option Addr} {x2 : Int} {y3 : Int} {w : World} {R R' : World -> Prop} {PR PR' : Value -> World -> Prop} (h : C77 t1 x2 y3 w R PR) (hr : ∀ w',R w' -> R' w') (hp : ∀ v w',PR v w' -> PR' v w') : C77 t1 x2 y3 w R' PR' :=
 Calls.mono h fun _ _ he=> he.elim (fun ⟨he,hR⟩=> .inl ⟨he,hr _ hR⟩) fun ⟨v,he,hP⟩=> .inr ⟨v,he,hp _ _ hP⟩
def C78 (t1 : Option Addr) (w : World) (R : World -> Prop) (PR : Value -> World -> Prop) : Prop :=
 Calls Tryz.prog 78 #[.pointer t1] w fun e w'=> (e = .returned (.tuple #[]) /\ R w') \/ ∃ v,e = .panicked (onePanic v) /\ PR v w'
theorem C78.mono {t1 : Option Addr} {w : World} {R R' : World -> Prop} {PR PR' : Value -> World -> Prop} (h : C78 t1 w R PR) (hr : ∀ w',R w' -> R' w') (hp : ∀ v w',PR v w' -> PR' v w') : C78 t1 w R' PR' :=
 Calls.mono h fun _ _ he=> he.elim (fun ⟨he,hR⟩=> .inl ⟨he,hr _ hR⟩) fun ⟨v,he,hP⟩=> .inr ⟨v,he,hp _ _ hP⟩
def C79 (t1 : Option Addr) (w : World) (R : World -> Prop) (PR : Value -> World -> Prop) : Prop :=
 Calls Tryz.prog 79 #[.pointer t1] w fun e w'=> (e = .returned (.tuple #[]) /\ R w') \/ ∃ v,e = .panicked (onePanic v) /\ PR v w'
theorem C79.mono {t1 : Option Addr} {w : World} {R R' : World -> Prop} {PR PR' : Value -> World -> Prop} (h : C79 t1 w R PR) (hr : ∀ w',R w' -> R' w') (hp : ∀ v w',PR v w' -> PR' v w') : C79 t1 w R' PR' :=
 Calls.mono h fun _ _ he=> he.elim (fun ⟨he,hR⟩=> .inl ⟨he,hr _ hR⟩) fun ⟨v,he,hP⟩=> .inr ⟨v,he,hp _ _ hP⟩
def C80 (t1 : Option Addr) (s2 : ByteArray) (w : World) (R : World -> Prop) (PR : Value -> World -> Prop) : Prop :=
 Calls Tryz.prog 80 #[.pointer t1,.string s2] w fun e w'=> (e = .returned (.tuple #[]) /\ R w') \/ ∃ v,e = .panicked (onePanic v) /\ PR v w'
theorem C80.mono {t1 : Option Addr} {s2 : ByteArray} {w : World} {R R' : World -> Prop} {PR PR' : Value -> World -> Prop} (h : C80 t1 s2 w R PR) (hr : ∀ w',R w' -> R' w') (hp : ∀ v w',PR v w' -> PR' v w') : C80 t1 s2 w R' PR' :=
 Calls.mono h fun _ _ he=> he.elim (fun ⟨he,hR⟩=> .inl ⟨he,hr _ hR⟩) fun ⟨v,he,hP⟩=> .inr ⟨v,he,hp _ _ hP⟩
def C81 (t1 : Option Addr) (w : World) (R : World -> Prop) (PR : Value -> World -> Prop) : Prop :=
 Calls Tryz.prog 81 #[.pointer t1] w fun e w'=> (e = .returned (.tuple #[]) /\ R w') \/ ∃ v,e = .panicked (onePanic v) /\ PR v w'
theorem C81.mono {t1 : Option Addr} {w : World} {R R' : World -> Prop} {PR PR' : Value -> World -> Prop} (h : C81 t1 w R PR) (hr : ∀ w',R w' -> R' w') (hp : ∀ v w',PR v w' -> PR' v w') : C81 t1 w R' PR' :=
 Calls.mono h fun _ _ he=> he.elim (fun ⟨he,hR⟩=> .inl ⟨he,hr _ hR⟩) fun ⟨v,he,hP⟩=> .inr ⟨v,he,hp _ _ hP⟩
def C44 (t1 : Option Addr) (w : World) (R : World -> Prop) (PR : Value -> World -> Prop) : Prop :=
 Calls Tryz.prog 44 #[.pointer t1] w fun e w'=> (e = .returned (.tuple #[]) /\ R w') \/ ∃ v,e = .panicked (onePanic v) /\ PR v w'
theorem C44.mono {t1 : Option Addr} {w : World} {R R' : World -> Prop} {PR PR' : Value -> World -> Prop} (h : C44 t1 w R PR) (hr : ∀ w',R w' -> R' w') (hp : ∀ v w',PR v w' -> PR' v w') : C44 t1 w R' PR' :=
 Calls.mono h fun _ _ he=> he.elim (fun ⟨he,hR⟩=> .inl ⟨he,hr _ hR⟩) fun ⟨v,he,hP⟩=> .inr ⟨v,he,hp _ _ hP⟩
def C13 (x1 : Option Addr) (o2 : ByteArray × Slc × ByteArray) (g3 : TyA30) (f4 : TyA34) (w : World) (R : Slc -> Int -> World -> Prop) : Prop :=
 Calls Tryz.prog 13 #[.pointer x1,.agg #[.string o2.1,Slc.v o2.2.1,.string o2.2.2],.agg (Sig.cells LiA30 g3).toArray,.agg (Sig.cells LiA34 f4).toArray] w fun e w'=> ∃ r0 : Slc,∃ r1 : Int,e = .returned (.tuple #[Slc.v r0,.int .i64 r1]) /\ R r0 r1 w'
theorem C13.mono {x1 : Option Addr} {o2 : ByteArray × Slc × ByteArray} {g3 : TyA30} {f4 : TyA34} {w : World} {R R' : Slc -> Int -> World -> Prop} (h : C13 x1 o2 g3 f4 w R) (hr : ∀ r0 r1 w',R r0 r1 w' -> R' r0 r1 w') : C13 x1 o2 g3 f4 w R' :=
 Calls.mono h fun _ _ ⟨r0,r1,he,hR⟩=> ⟨r0,r1,he,hr _ _ _ hR⟩
def C16 (x1 : Option Addr) (w : World) (R : Bool -> World -> Prop) : Prop :=
 Calls Tryz.prog 16 #[.pointer x1] w fun e w'=> ∃ r0 : Bool,e = .returned (.bool r0) /\ R r0 w'
theorem C16.mono {x1 : Option Addr} {w : World} {R R' : Bool -> World -> Prop} (h : C16 x1 w R) (hr : ∀ r0 w',R r0 w' -> R' r0 w') : C16 x1 w R' :=
 Calls.mono h fun _ _ ⟨r0,he,hR⟩=> ⟨r0,he,hr _ _ hR⟩
def C17 (x1 : Option Addr) (w : World) (R : (Int × Int × Int × Int × Int × Int) -> World -> Prop) : Prop :=
 Calls Tryz.prog 17 #[.pointer x1] w fun e w'=> ∃ r0 : Int × Int × Int × Int × Int × Int,e = .returned (.agg #[.int .i64 (r0.1),.int .i64 (r0.2.1),.int .i64 (r0.2.2.1),.int .i64 (r0.2.2.2.1),.int .i64 (r0.2.2.2.2.1),.int .i64 (r0.2.2.2.2.2)]) /\ R r0 w'
theorem C17.mono {x1 : Option Addr} {w : World} {R R' : (Int × Int × Int × Int × Int × Int) -> World -> Prop} (h : C17 x1 w R) (hr : ∀ r0 w',R r0 w' -> R' r0 w') : C17 x1 w R' :=
 Calls.mono h fun _ _ ⟨r0,he,hR⟩=> ⟨r0,he,hr _ _ hR⟩
def S38_nil (c1 : Addr) (c2 : Addr) (w : World) (R : World -> Prop) : Prop :=
 C30 Value.nilIface (some c1) w (fun z3=>
  Ld z3 c1 (.int .i64) fun x4=>
  Br (x4 != 0) (St z3 c2 (Slc.v ((⟨none,0,0⟩ : Slc))) fun z5=>
   R z5) (R z3)) (fun _ _=> False)
def pl38_nil : Plan := (.q (.cond (.reg .seq) .leaf))
theorem T38_nil (c1 : Addr) (c2 : Addr) (w : World) (R : World -> Prop) (h : S38_nil c1 c2 w R) : CD38 c1 c2 none w R := by
 have e : fnTS Tryz.prog FF MAY pl38_nil Tryz.f38 [.pointer (some c1),.pointer (some c2)] none w R = S38_nil c1 c2 w R := by kernel_rfl
 exact fnS_calls okF okM Tryz.func38 (by kernel_rfl) (by kernel_rfl) (e.mpr h)
def S38_T106 (c1 : Addr) (c2 : Addr) (u3 : Int) (w : World) (R : World -> Prop) : Prop :=
 C30 (.iface 106 (.agg #[.int .i64 u3])) (some c1) w (fun z4=>
  Ld z4 c1 (.int .i64) fun x5=>
  Br (x5 != 0) (St z4 c2 (Slc.v ((⟨none,0,0⟩ : Slc))) fun z6=>
   R z6) (R z4)) (fun _ _=> False)
def pl38_T106 : Plan := (.q (.cond (.reg .seq) .leaf))
theorem T38_T106 (c1 : Addr) (c2 : Addr) (u3 : Int) (w : World) (R : World -> Prop) (h : S38_T106 c1 c2 u3 w R) : CD38 c1 c2 (some (.iface 106 (.agg #[.int .i64 u3]))) w R := by
 have e : fnTS Tryz.prog FF MAY pl38_T106 Tryz.f38 [.pointer (some c1),.pointer (some c2)] (some (.iface 106 (.agg #[.int .i64 u3]))) w R = S38_T106 c1 c2 u3 w R := by kernel_rfl
 exact fnS_calls okF okM Tryz.func38 (by kernel_rfl) (by kernel_rfl) (e.mpr h)
def S40 (name1 : ByteArray) (w : World) (R : Bool -> World -> Prop) : Prop :=
 Nw w (.cells #[.string ((⟨#[66,84]⟩ : ByteArray)),.string ((⟨#[69,84]⟩ : ByteArray)),.string ((⟨#[84,100]⟩ : ByteArray)),.string ((⟨#[84,68]⟩ : ByteArray)),.string ((⟨#[84,42]⟩ : ByteArray)),.string ((⟨#[84,109]⟩ : ByteArray)),.string ((⟨#[84,106]⟩ : ByteArray)),.string ((⟨#[39]⟩ : ByteArray)),.string ((⟨#[34]⟩ : ByteArray)),.string ((⟨#[84,74]⟩ : ByteArray))] 9) fun z2=>
 C72 (⟨some ⟨w.heap.size,0,none⟩,10,10⟩ : Slc) name1 z2 fun r3 z4=>
  R r3 z4
def pl40 : Plan := (.q (.q .leaf))
theorem T40 (name1 : ByteArray) (w : World) (R : Bool -> World -> Prop) (h : S40 name1 w R) : C40 name1 w R := by
 have e : fnT Tryz.prog ⟨FF,MAY,(fun _ _=> False)⟩ pl40 Tryz.f40 [.string name1] w [(.one .bool)] (fun s w=> R s w) = S40 name1 w R := by kernel_rfl
 exact (fn_calls okF okM Tryz.func40 (by kernel_rfl) (by kernel_rfl) (e.mpr h)).mono fun _ _ ⟨s,he,hR⟩=> ⟨s,he,hR⟩
def S41 (x1 : ByteArray × Slc × ByteArray) (why2 : Int) (w : World) (R : (ByteArray × Slc × ByteArray) -> World -> Prop) (PR : Value -> World -> Prop) : Prop :=
 Nw w (.cells #[.string x1.1,Slc.v x1.2.1,.string x1.2.2] 48) fun z3=>
 Nw z3 (.cells #[.string (⟨#[]⟩ : ByteArray),Slc.v ((⟨none,0,0⟩ : Slc)),.string (⟨#[]⟩ : ByteArray)] 48) fun z4=>
 C39 (why2 == 0) why2 z4 (fun z5=>
  Ld z5 ⟨w.heap.size,0,none⟩ .string fun x6=>
  Ld z5 (.add ⟨w.heap.size,0,none⟩ 1) Slc.v fun x7=>
  Ld z5 (.add ⟨w.heap.size,0,none⟩ 2) .string fun x8=>
  St z5 ⟨z3.heap.size,0,none⟩ (.string x6) fun z9=>
  St z9 (.add ⟨z3.heap.size,0,none⟩ 1) (Slc.v x7) fun z10=>
  St z10 (.add ⟨z3.heap.size,0,none⟩ 2) (.string x8) fun z11=>
  Ld z11 ⟨z3.heap.size,0,none⟩ .string fun x12=>
  Ld z11 (.add ⟨z3.heap.size,0,none⟩ 1) Slc.v fun x13=>
  Ld z11 (.add ⟨z3.heap.size,0,none⟩ 2) .string fun x14=>
  R (x12,x13,x14) z11) PR
def pl41 : Plan := (.q (.q (.q .leaf)))
theorem T41 (x1 : ByteArray × Slc × ByteArray) (why2 : Int) (w : World) (R : (ByteArray × Slc × ByteArray) -> World -> Prop) (PR : Value -> World -> Prop) (h : S41 x1 why2 w R PR) : C41 (x1.1,x1.2.1,x1.2.2) why2 w R PR := by
 have e : fnT Tryz.prog ⟨FF,MAY,PR⟩ pl41 Tryz.f41 [.agg #[.string x1.1,Slc.v x1.2.1,.string x1.2.2],.int .i64 why2] w [(.agg [.str,.slc,.str])] (fun s w=> R s w) = S41 x1 why2 w R PR := by kernel_rfl
 exact (fn_callsP okF okM Tryz.func41 (by kernel_rfl) (by kernel_rfl) (e.mpr h)).mono fun _ _ he=> he.elim (fun ⟨s,he,hR⟩=> .inl ⟨s,he,hR⟩) .inr
def S75 (x1 : Slc) (why2 : Int) (w : World) (R : Slc -> World -> Prop) (PR : Value -> World -> Prop) : Prop :=
 C39 (why2 == 0) why2 w (fun z3=>
  R x1 z3) PR
def pl75 : Plan := (.q (.q (.q .leaf)))
theorem T75 (x1 : Slc) (why2 : Int) (w : World) (R : Slc -> World -> Prop) (PR : Value -> World -> Prop) (h : S75 x1 why2 w R PR) : C75 x1 why2 w R PR := by
 have e : fnT Tryz.prog ⟨FF,MAY,PR⟩ pl75 Tryz.f75 [Slc.v x1,.int .i64 why2] w [(.one .slc)] (fun s w=> R s w) = S75 x1 why2 w R PR := by kernel_rfl
 exact (fn_callsP okF okM Tryz.func75 (by kernel_rfl) (by kernel_rfl) (e.mpr h)).mono fun _ _ he=> he.elim (fun ⟨s,he,hR⟩=> .inl ⟨s,he,hR⟩) .inr
def S43L1 (r4 : ByteArray) (z5 : World) (x40 : Slc) (R : Slc -> World -> Prop) (PR : Value -> World -> Prop) (I43 : Int -> World -> Prop) (s41 : Int) (z42 : World) : Prop :=
 Br (decide (s41 < ((x40.len : Nat) : Int))) (0 <= s41 /\ s41 < (x40.len : Nat) /\ Nn x40.p fun a44=>
  Ld z42 (a44.add ((s41).toNat * 6)) (.int .i64) fun x45=>
  Ld z42 ((a44.add ((s41).toNat * 6)).add 1) (.int .i64) fun x46=>
  Ld z42 ((a44.add ((s41).toNat * 6)).add 2) (.int .i64) fun x47=>
  Ld z42 ((a44.add ((s41).toNat * 6)).add 3) .string fun x48=>
  Ld z42 ((a44.add ((s41).toNat * 6)).add 4) Slc.v fun x49=>
  Ld z42 ((a44.add ((s41).toNat * 6)).add 5) Slc.v fun x50=>
  Nw z42 (.cells #[.int .i64 0,.int .i64 0,.int .i64 0,.string (⟨#[]⟩ : ByteArray),Slc.v ((⟨none,0,0⟩ : Slc)),Slc.v ((⟨none,0,0⟩ : Slc))] 61) fun z51=>
  St z51 ⟨z42.heap.size,0,none⟩ (.int .i64 x45) fun z52=>
  St z52 (.add ⟨z42.heap.size,0,none⟩ 1) (.int .i64 x46) fun z53=>
  St z53 (.add ⟨z42.heap.size,0,none⟩ 2) (.int .i64 x47) fun z54=>
  St z54 (.add ⟨z42.heap.size,0,none⟩ 3) (.string x48) fun z55=>
  St z55 (.add ⟨z42.heap.size,0,none⟩ 4) (Slc.v x49) fun z56=>
  St z56 (.add ⟨z42.heap.size,0,none⟩ 5) (Slc.v x50) fun z57=>
  0 <= s41 /\ s41 < ((r4).size : Nat) /\ Br ((bAt r4 s41) == 110) (Ld z57 (.add ⟨z5.heap.size,0,none⟩ 1) Slc.v fun x58=>
   Ld z57 ⟨z42.heap.size,0,none⟩ (.int .i64) fun x59=>
   Ld z57 (.add ⟨z42.heap.size,0,none⟩ 1) (.int .i64) fun x60=>
   Ld z57 (.add ⟨z42.heap.size,0,none⟩ 2) (.int .i64) fun x61=>
   Ld z57 (.add ⟨z42.heap.size,0,none⟩ 3) .string fun x62=>
   Ld z57 (.add ⟨z42.heap.size,0,none⟩ 4) Slc.v fun x63=>
   Ld z57 (.add ⟨z42.heap.size,0,none⟩ 5) Slc.v fun x64=>
   Nw z57 (.cells #[.int .i64 x59,.int .i64 x60,.int .i64 x61,.string x62,Slc.v x63,Slc.v x64] 61) fun z65=>
   Rn Tryz.prog (Builtin.append_ #[46,46] 46 #[Slc.v x58,Slc.v ((⟨some ⟨z57.heap.size,0,none⟩,1,1⟩ : Slc))]) z65 Slc.v fun (x66 : Slc) z67=>
   St z67 (.add ⟨z5.heap.size,0,none⟩ 1) (Slc.v x66) fun z68=>
   I43 (IntKind.i64.wrap (s41 + 1)) z68) (I43 (IntKind.i64.wrap (s41 + 1)) z57)) (Ld z42 ⟨z5.heap.size,0,none⟩ .string fun x69=>
  Ld z42 (.add ⟨z5.heap.size,0,none⟩ 1) Slc.v fun x70=>
  Ld z42 (.add ⟨z5.heap.size,0,none⟩ 2) .string fun x71=>
  C76 (x69,x70,x71) z42 fun r72 r73 z74=>
   C75 r72 r73 z74 (fun r75 z76=>
    R r75 z76) PR)
def S43 (o1 : ByteArray × Slc × ByteArray) (w : World) (R : Slc -> World -> Prop) (PR : Value -> World -> Prop) : Prop :=
 Nw w (.cells #[.string o1.1,Slc.v o1.2.1,.string o1.2.2] 48) fun z2=>
 Ld z2 ⟨w.heap.size,0,none⟩ .string fun x3=>
 C73 x3 z2 fun r4 z5=>
  Ld z5 ⟨w.heap.size,0,none⟩ .string fun x6=>
  Nw z5 (.cells #[.string (⟨#[]⟩ : ByteArray),Slc.v ((⟨none,0,0⟩ : Slc)),.string (⟨#[]⟩ : ByteArray)] 48) fun z7=>
  St z7 ⟨z5.heap.size,0,none⟩ (.string x6) fun z8=>
  St z8 (.add ⟨z5.heap.size,0,none⟩ 1) (Slc.v ((⟨none,0,0⟩ : Slc))) fun z9=>
  St z9 (.add ⟨z5.heap.size,0,none⟩ 2) (.string (⟨#[]⟩ : ByteArray)) fun z10=>
  Ld z10 (.add ⟨w.heap.size,0,none⟩ 1) Slc.v fun x40=>
  Lp (σ := Int) (S43L1 r4 z5 x40 R PR) 0 z10
def pl43 : Plan := (.q (.q (.q (.seq (.q (.block (.loop [(16,(.one (.int .i64)))] [3,4,14,15] (.q (.seq (.cond .leaf .leaf) (.seq (.block (.q (.q (.cond (.reg .seq) .leaf)))) (.reg .seq))))))) (.q .leaf)))))
theorem T43 (o1 : ByteArray × Slc × ByteArray) (w : World) (R : Slc -> World -> Prop) (PR : Value -> World -> Prop) (h : S43 o1 w R PR) : C43 (o1.1,o1.2.1,o1.2.2) w R PR := by
 have e : fnT Tryz.prog ⟨FF,MAY,PR⟩ pl43 Tryz.f43 [.agg #[.string o1.1,Slc.v o1.2.1,.string o1.2.2]] w [(.one .slc)] (fun s w=> R s w) = S43 o1 w R PR := by kernel_rfl
 exact (fn_callsP okF okM Tryz.func43 (by kernel_rfl) (by kernel_rfl) (e.mpr h)).mono fun _ _ he=> he.elim (fun ⟨s,he,hR⟩=> .inl ⟨s,he,hR⟩) .inr
def S7 (w : World) (R : Option Addr -> World -> Prop) : Prop :=
 C24 w fun r1 z2=>
  C24 z2 fun r3 z4=>
   Nw z4 (.cells #[.bool false,.int .i64 (r1.1),.int .i64 (r1.2.1),.int .i64 (r1.2.2.1),.int .i64 (r1.2.2.2.1),.int .i64 (r1.2.2.2.2.1),.int .i64 (r1.2.2.2.2.2),.int .i64 (r3.1),.int .i64 (r3.2.1),.int .i64 (r3.2.2.1),.int .i64 (r3.2.2.2.1),.int .i64 (r3.2.2.2.2.1),.int .i64 (r3.2.2.2.2.2)] 73) fun z5=>
   R (some ⟨z4.heap.size,0,none⟩) z5
def pl7 : Plan := (.q (.q .leaf))
theorem T7 (w : World) (R : Option Addr -> World -> Prop) (h : S7 w R) : C7 w R := by
 have e : fnT Tryz.prog ⟨FF,MAY,(fun _ _=> False)⟩ pl7 Tryz.f7 [] w [(.one .ptr)] (fun s w=> R s w) = S7 w R := by kernel_rfl
 exact (fn_calls okF okM Tryz.func7 (by kernel_rfl) (by kernel_rfl) (e.mpr h)).mono fun _ _ ⟨s,he,hR⟩=> ⟨s,he,hR⟩
def S77 (t1 : Option Addr) (x2 : Int) (y3 : Int) (w : World) (R : World -> Prop) (PR : Value -> World -> Prop) : Prop :=
 ∃ vS4 : World -> Prop,vS4 w.drew /\ Nn t1 fun a5=>
 LdS vS4 (a5.add 7) (.int .i64) fun x6=>
 LdS vS4 ((a5.add 7).add 1) (.int .i64) fun x7=>
 LdS vS4 ((a5.add 7).add 2) (.int .i64) fun x8=>
 LdS vS4 ((a5.add 7).add 3) (.int .i64) fun x9=>
 LdS vS4 ((a5.add 7).add 4) (.int .i64) fun x10=>
 LdS vS4 ((a5.add 7).add 5) (.int .i64) fun x11=>
 C116 x2 y3 w.drew fun r12 z13=>
  vS4 z13 /\ C115 (r12.1,r12.2.1,r12.2.2.1,r12.2.2.2.1,r12.2.2.2.2.1,r12.2.2.2.2.2) (x6,x7,x8,x9,x10,x11) z13 fun r14 r15 z16=>
   C89 (r14.1,r14.2.1,r14.2.2.1,r14.2.2.2.1,r14.2.2.2.2.1,r14.2.2.2.2.2) r15 z16 (fun r17 z18=>
    Nn t1 fun a19=>
    St z18 (a19.add 7) (.int .i64 (r17.1)) fun z20=>
    St z20 ((a19.add 7).add 1) (.int .i64 (r17.2.1)) fun z21=>
    St z21 ((a19.add 7).add 2) (.int .i64 (r17.2.2.1)) fun z22=>
    St z22 ((a19.add 7).add 3) (.int .i64 (r17.2.2.2.1)) fun z23=>
    St z23 ((a19.add 7).add 4) (.int .i64 (r17.2.2.2.2.1)) fun z24=>
    St z24 ((a19.add 7).add 5) (.int .i64 (r17.2.2.2.2.2)) fun z25=>
    Nn t1 fun a26=>
    Ld z25 (a26.add 7) (.int .i64) fun x27=>
    Ld z25 ((a26.add 7).add 1) (.int .i64) fun x28=>
    Ld z25 ((a26.add 7).add 2) (.int .i64) fun x29=>
    Ld z25 ((a26.add 7).add 3) (.int .i64) fun x30=>
    Ld z25 ((a26.add 7).add 4) (.int .i64) fun x31=>
    Ld z25 ((a26.add 7).add 5) (.int .i64) fun x32=>
    Nn t1 fun a33=>
    St z25 (a33.add 1) (.int .i64 x27) fun z34=>
    St z34 ((a33.add 1).add 1) (.int .i64 x28) fun z35=>
    St z35 ((a33.add 1).add 2) (.int .i64 x29) fun z36=>
    St z36 ((a33.add 1).add 3) (.int .i64 x30) fun z37=>
    St z37 ((a33.add 1).add 4) (.int .i64 x31) fun z38=>
    St z38 ((a33.add 1).add 5) (.int .i64 x32) fun z39=>
    R z39) PR
def pl77 : Plan := (.seq (.reg (.held [9] (.take 0 (.take 1 (.take 2 (.take 4 (.take 5 (.take 6 (.take 7 (.take 8 (.eff 3 none (.eff 9 (some [12]) (.take 10 (.take 11 (.eff 12 (some [16]) (.take 13 (.take 14 (.take 15 (.eff 16 (some []) .done))))))))))))))))))) (.reg .seq))
theorem T77 (t1 : Option Addr) (x2 : Int) (y3 : Int) (w : World) (R : World -> Prop) (PR : Value -> World -> Prop) (h : S77 t1 x2 y3 w R PR) : C77 t1 x2 y3 w R PR := by
 have e : fnT Tryz.prog ⟨FF,MAY,PR⟩ pl77 Tryz.f77 [.pointer t1,.int .i64 x2,.int .i64 y3] w [] (fun _ w=> R w) = S77 t1 x2 y3 w R PR := by kernel_rfl
 exact (fn_callsP okF okM Tryz.func77 (by kernel_rfl) (by kernel_rfl) (e.mpr h)).mono fun _ _ he=> he.elim (fun ⟨_,he,hR⟩=> .inl ⟨he,hR⟩) .inr
def S78 (t1 : Option Addr) (w : World) (R : World -> Prop) (PR : Value -> World -> Prop) : Prop :=
 Nn t1 fun a2=>
 LdT w (a2.add 13) 0 LiA30 fun (x3 : TyA30)=>
 C31 x3 w (fun z4=>
  Nn t1 fun a5=>
  Ld z4 (((a5.add 13).add 22).add 3) (.int .i64) fun x6=>
  C77 t1 0 (IntKind.i64.wrap (0 - x6)) z4 (fun z7=>
   R z7) PR) PR
def pl78 : Plan := (.q (.reg .seq))
theorem T78 (t1 : Option Addr) (w : World) (R : World -> Prop) (PR : Value -> World -> Prop) (h : S78 t1 w R PR) : C78 t1 w R PR := by
 have e : fnT Tryz.prog ⟨FF,MAY,PR⟩ pl78 Tryz.f78 [.pointer t1] w [] (fun _ w=> R w) = S78 t1 w R PR := by kernel_rfl
 exact (fn_callsP okF okM Tryz.func78 (by kernel_rfl) (by kernel_rfl) (e.mpr h)).mono fun _ _ he=> he.elim (fun ⟨_,he,hR⟩=> .inl ⟨he,hR⟩) .inr
def S79 (t1 : Option Addr) (w : World) (R : World -> Prop) (PR : Value -> World -> Prop) : Prop :=
 Nn t1 fun a2=>
 Ld w (a2.add 53) Slc.v fun x3=>
 ∃ vS4 : World -> Prop,vS4 w.drew /\ 0 <= (0 : Int) /\ (0 : Int) < (x3.len : Nat) /\ Nn x3.p fun a5=>
 LdS vS4 (a5.add (((0 : Int)).toNat * 1)) (.int .i64) fun x6=>
 0 <= (1 : Int) /\ (1 : Int) < (x3.len : Nat) /\ Nn x3.p fun a7=>
 LdS vS4 (a7.add (((1 : Int)).toNat * 1)) (.int .i64) fun x8=>
 0 <= (2 : Int) /\ (2 : Int) < (x3.len : Nat) /\ Nn x3.p fun a9=>
 LdS vS4 (a9.add (((2 : Int)).toNat * 1)) (.int .i64) fun x10=>
 0 <= (3 : Int) /\ (3 : Int) < (x3.len : Nat) /\ Nn x3.p fun a11=>
 LdS vS4 (a11.add (((3 : Int)).toNat * 1)) (.int .i64) fun x12=>
 0 <= (4 : Int) /\ (4 : Int) < (x3.len : Nat) /\ Nn x3.p fun a13=>
 LdS vS4 (a13.add (((4 : Int)).toNat * 1)) (.int .i64) fun x14=>
 0 <= (5 : Int) /\ (5 : Int) < (x3.len : Nat) /\ Nn x3.p fun a15=>
 LdS vS4 (a15.add (((5 : Int)).toNat * 1)) (.int .i64) fun x16=>
 Nw w.drew (.cells #[.int .i64 0,.int .i64 0,.int .i64 0,.int .i64 0,.int .i64 0,.int .i64 0] 24) fun z17=>
 vS4 z17 /\ St z17 ⟨w.drew.heap.size,0,none⟩ (.int .i64 x6) fun z18=>
 St z18 (.add ⟨w.drew.heap.size,0,none⟩ 1) (.int .i64 x8) fun z19=>
 St z19 (.add ⟨w.drew.heap.size,0,none⟩ 2) (.int .i64 x10) fun z20=>
 St z20 (.add ⟨w.drew.heap.size,0,none⟩ 3) (.int .i64 x12) fun z21=>
 St z21 (.add ⟨w.drew.heap.size,0,none⟩ 4) (.int .i64 x14) fun z22=>
 St z22 (.add ⟨w.drew.heap.size,0,none⟩ 5) (.int .i64 x16) fun z23=>
 ∃ vS24 : World -> Prop,vS24 z23.drew /\ LdS vS24 ⟨w.drew.heap.size,0,none⟩ (.int .i64) fun x25=>
 LdS vS24 (.add ⟨w.drew.heap.size,0,none⟩ 1) (.int .i64) fun x26=>
 LdS vS24 (.add ⟨w.drew.heap.size,0,none⟩ 2) (.int .i64) fun x27=>
 LdS vS24 (.add ⟨w.drew.heap.size,0,none⟩ 3) (.int .i64) fun x28=>
 LdS vS24 (.add ⟨w.drew.heap.size,0,none⟩ 4) (.int .i64) fun x29=>
 LdS vS24 (.add ⟨w.drew.heap.size,0,none⟩ 5) (.int .i64) fun x30=>
 LdS vS24 ⟨w.drew.heap.size,0,none⟩ (.int .i64) fun x31=>
 LdS vS24 (.add ⟨w.drew.heap.size,0,none⟩ 1) (.int .i64) fun x32=>
 LdS vS24 (.add ⟨w.drew.heap.size,0,none⟩ 2) (.int .i64) fun x33=>
 LdS vS24 (.add ⟨w.drew.heap.size,0,none⟩ 3) (.int .i64) fun x34=>
 LdS vS24 (.add ⟨w.drew.heap.size,0,none⟩ 4) (.int .i64) fun x35=>
 LdS vS24 (.add ⟨w.drew.heap.size,0,none⟩ 5) (.int .i64) fun x36=>
 C57 (x31,x32,x33,x34,x35,x36) z23.drew fun r37 z38=>
  vS24 z38 /\ C89 (x25,x26,x27,x28,x29,x30) r37 z38 (fun r39 z40=>
   ∃ vS41 : World -> Prop,vS41 z40.drew /\ LdS vS41 ⟨w.drew.heap.size,0,none⟩ (.int .i64) fun x42=>
   LdS vS41 (.add ⟨w.drew.heap.size,0,none⟩ 1) (.int .i64) fun x43=>
   LdS vS41 (.add ⟨w.drew.heap.size,0,none⟩ 2) (.int .i64) fun x44=>
   LdS vS41 (.add ⟨w.drew.heap.size,0,none⟩ 3) (.int .i64) fun x45=>
   LdS vS41 (.add ⟨w.drew.heap.size,0,none⟩ 4) (.int .i64) fun x46=>
   LdS vS41 (.add ⟨w.drew.heap.size,0,none⟩ 5) (.int .i64) fun x47=>
   LdS vS41 ⟨w.drew.heap.size,0,none⟩ (.int .i64) fun x48=>
   LdS vS41 (.add ⟨w.drew.heap.size,0,none⟩ 1) (.int .i64) fun x49=>
   LdS vS41 (.add ⟨w.drew.heap.size,0,none⟩ 2) (.int .i64) fun x50=>
   LdS vS41 (.add ⟨w.drew.heap.size,0,none⟩ 3) (.int .i64) fun x51=>
   LdS vS41 (.add ⟨w.drew.heap.size,0,none⟩ 4) (.int .i64) fun x52=>
   LdS vS41 (.add ⟨w.drew.heap.size,0,none⟩ 5) (.int .i64) fun x53=>
   Nn t1 fun a54=>
   St z40.drew (a54.add 1) (.int .i64 x42) fun z55=>
   St z55 ((a54.add 1).add 1) (.int .i64 x43) fun z56=>
   St z56 ((a54.add 1).add 2) (.int .i64 x44) fun z57=>
   St z57 ((a54.add 1).add 3) (.int .i64 x45) fun z58=>
   St z58 ((a54.add 1).add 4) (.int .i64 x46) fun z59=>
   St z59 ((a54.add 1).add 5) (.int .i64 x47) fun z60=>
   vS41 z60 /\ Nn t1 fun a61=>
   St z60 (a61.add 7) (.int .i64 x48) fun z62=>
   St z62 ((a61.add 7).add 1) (.int .i64 x49) fun z63=>
   St z63 ((a61.add 7).add 2) (.int .i64 x50) fun z64=>
   St z64 ((a61.add 7).add 3) (.int .i64 x51) fun z65=>
   St z65 ((a61.add 7).add 4) (.int .i64 x52) fun z66=>
   St z66 ((a61.add 7).add 5) (.int .i64 x53) fun z67=>
   R z67) PR
def pl79 : Plan := (.q (.seq (.reg (.held [20] (.take 0 (.take 1 (.take 2 (.take 3 (.take 4 (.take 5 (.take 6 (.take 7 (.take 8 (.take 9 (.take 10 (.take 11 (.take 12 (.take 13 (.take 14 (.take 15 (.take 16 (.take 17 (.take 18 (.eff 19 none (.eff 20 (some []) .done))))))))))))))))))))))) (.seq (.reg (.held [3] (.take 0 (.take 1 (.eff 2 none (.eff 3 (some []) .done)))))) (.reg (.held [11] (.take 0 (.take 1 (.take 2 (.take 3 (.take 4 (.take 5 (.take 6 (.eff 7 none (.take 8 (.take 9 (.take 10 (.eff 11 (some []) .done)))))))))))))))))
theorem T79 (t1 : Option Addr) (w : World) (R : World -> Prop) (PR : Value -> World -> Prop) (h : S79 t1 w R PR) : C79 t1 w R PR := by
 have e : fnT Tryz.prog ⟨FF,MAY,PR⟩ pl79 Tryz.f79 [.pointer t1] w [] (fun _ w=> R w) = S79 t1 w R PR := by kernel_rfl
 exact (fn_callsP okF okM Tryz.func79 (by kernel_rfl) (by kernel_rfl) (e.mpr h)).mono fun _ _ he=> he.elim (fun ⟨_,he,hR⟩=> .inl ⟨he,hR⟩) .inr
def S80 (t1 : Option Addr) (s2 : ByteArray) (w : World) (R : World -> Prop) (PR : Value -> World -> Prop) : Prop :=
 ∃ vS33 : World -> Prop,vS33 w.drew /\ Nn t1 fun a34=>
 LdST vS33 (a34.add 13) 0 LiA83 fun (x35 : TyA83)=>
 Nn t1 fun a36=>
 LdS vS33 (a36.add 1) (.int .i64) fun x37=>
 LdS vS33 ((a36.add 1).add 1) (.int .i64) fun x38=>
 LdS vS33 ((a36.add 1).add 2) (.int .i64) fun x39=>
 LdS vS33 ((a36.add 1).add 3) (.int .i64) fun x40=>
 LdS vS33 ((a36.add 1).add 4) (.int .i64) fun x41=>
 LdS vS33 ((a36.add 1).add 5) (.int .i64) fun x42=>
 (C55 x35 (x37,x38,x39,x40,x41,x42) s2 w.drew (fun r43 r44 z45=>
   Nw z45 (.cells #[.int .i64 0,.int .i64 0,.int .i64 0,.int .i64 0,.int .i64 0,.int .i64 0] 24) fun z46=>
   St z46 ⟨z45.heap.size,0,none⟩ (.int .i64 (r44.1)) fun z47=>
   St z47 (.add ⟨z45.heap.size,0,none⟩ 1) (.int .i64 (r44.2.1)) fun z48=>
   St z48 (.add ⟨z45.heap.size,0,none⟩ 2) (.int .i64 (r44.2.2.1)) fun z49=>
   St z49 (.add ⟨z45.heap.size,0,none⟩ 3) (.int .i64 (r44.2.2.2.1)) fun z50=>
   St z50 (.add ⟨z45.heap.size,0,none⟩ 4) (.int .i64 (r44.2.2.2.2.1)) fun z51=>
   St z51 (.add ⟨z45.heap.size,0,none⟩ 5) (.int .i64 (r44.2.2.2.2.2)) fun z52=>
   Nn t1 fun a53=>
   Ld z52 (a53.add 54) Slc.v fun x54=>
   C39 (decide ((IntKind.i64.wrap (((x54.len : Nat) : Int) + ((r43.len : Nat) : Int))) <= 16384)) 6 z52 (fun z55=>
    Nn t1 fun a56=>
    Ld z55 (a56.add 54) Slc.v fun x57=>
    Rn Tryz.prog (Builtin.append_ #[49,49] 49 #[Slc.v x57,Slc.v r43]) z55 Slc.v fun (x58 : Slc) z59=>
    Nn t1 fun a60=>
    St z59 (a60.add 54) (Slc.v x58) fun z61=>
    Ld z61 ⟨z45.heap.size,0,none⟩ (.int .i64) fun x62=>
    Ld z61 (.add ⟨z45.heap.size,0,none⟩ 1) (.int .i64) fun x63=>
    Ld z61 (.add ⟨z45.heap.size,0,none⟩ 2) (.int .i64) fun x64=>
    Ld z61 (.add ⟨z45.heap.size,0,none⟩ 3) (.int .i64) fun x65=>
    Ld z61 (.add ⟨z45.heap.size,0,none⟩ 4) (.int .i64) fun x66=>
    Ld z61 (.add ⟨z45.heap.size,0,none⟩ 5) (.int .i64) fun x67=>
    Nn t1 fun a68=>
    St z61 (a68.add 1) (.int .i64 x62) fun z69=>
    St z69 ((a68.add 1).add 1) (.int .i64 x63) fun z70=>
    St z70 ((a68.add 1).add 2) (.int .i64 x64) fun z71=>
    St z71 ((a68.add 1).add 3) (.int .i64 x65) fun z72=>
    St z72 ((a68.add 1).add 4) (.int .i64 x66) fun z73=>
    St z73 ((a68.add 1).add 5) (.int .i64 x67) fun z74=>
    R z74) PR) PR) /\
 (Nw w.drew (.cells #[.int .i64 0,.int .i64 0,.int .i64 0,.int .i64 0,.int .i64 0,.int .i64 0] 24) fun z75=>
  vS33 z75 /\ C55 x35 (x37,x38,x39,x40,x41,x42) s2 z75 (fun r76 r77 z78=>
   St z78 ⟨w.drew.heap.size,0,none⟩ (.int .i64 (r77.1)) fun z79=>
   St z79 (.add ⟨w.drew.heap.size,0,none⟩ 1) (.int .i64 (r77.2.1)) fun z80=>
   St z80 (.add ⟨w.drew.heap.size,0,none⟩ 2) (.int .i64 (r77.2.2.1)) fun z81=>
   St z81 (.add ⟨w.drew.heap.size,0,none⟩ 3) (.int .i64 (r77.2.2.2.1)) fun z82=>
   St z82 (.add ⟨w.drew.heap.size,0,none⟩ 4) (.int .i64 (r77.2.2.2.2.1)) fun z83=>
   St z83 (.add ⟨w.drew.heap.size,0,none⟩ 5) (.int .i64 (r77.2.2.2.2.2)) fun z84=>
   Nn t1 fun a85=>
   Ld z84 (a85.add 54) Slc.v fun x86=>
   C39 (decide ((IntKind.i64.wrap (((x86.len : Nat) : Int) + ((r76.len : Nat) : Int))) <= 16384)) 6 z84 (fun z87=>
    Nn t1 fun a88=>
    Ld z87 (a88.add 54) Slc.v fun x89=>
    Rn Tryz.prog (Builtin.append_ #[49,49] 49 #[Slc.v x89,Slc.v r76]) z87 Slc.v fun (x90 : Slc) z91=>
    Nn t1 fun a92=>
    St z91 (a92.add 54) (Slc.v x90) fun z93=>
    Ld z93 ⟨w.drew.heap.size,0,none⟩ (.int .i64) fun x94=>
    Ld z93 (.add ⟨w.drew.heap.size,0,none⟩ 1) (.int .i64) fun x95=>
    Ld z93 (.add ⟨w.drew.heap.size,0,none⟩ 2) (.int .i64) fun x96=>
    Ld z93 (.add ⟨w.drew.heap.size,0,none⟩ 3) (.int .i64) fun x97=>
    Ld z93 (.add ⟨w.drew.heap.size,0,none⟩ 4) (.int .i64) fun x98=>
    Ld z93 (.add ⟨w.drew.heap.size,0,none⟩ 5) (.int .i64) fun x99=>
    Nn t1 fun a100=>
    St z93 (a100.add 1) (.int .i64 x94) fun z101=>
    St z101 ((a100.add 1).add 1) (.int .i64 x95) fun z102=>
    St z102 ((a100.add 1).add 2) (.int .i64 x96) fun z103=>
    St z103 ((a100.add 1).add 3) (.int .i64 x97) fun z104=>
    St z104 ((a100.add 1).add 4) (.int .i64 x98) fun z105=>
    St z105 ((a100.add 1).add 5) (.int .i64 x99) fun z106=>
    R z106) PR) PR)
def pl80 : Plan := (.seq (.reg (.held [10] (.take 0 (.take 1 (.take 2 (.take 3 (.take 4 (.take 5 (.take 6 (.take 7 (.take 8 (.take 9 (.effs 10 (some [14]) (.take 11 (.take 12 (.take 13 (.eff 14 (some [16]) (.take 15 (.eff 16 (some []) .done)))))) (.eff 14 none (.eff 10 (some [16]) (.take 11 (.take 12 (.take 13 (.take 15 (.eff 16 (some []) .done)))))))))))))))))))) (.q (.q (.reg .seq))))
theorem T80 (t1 : Option Addr) (s2 : ByteArray) (w : World) (R : World -> Prop) (PR : Value -> World -> Prop) (h : S80 t1 s2 w R PR) : C80 t1 s2 w R PR := by
 have e : fnT Tryz.prog ⟨FF,MAY,PR⟩ pl80 Tryz.f80 [.pointer t1,.string s2] w [] (fun _ w=> R w) = S80 t1 s2 w R PR := by kernel_rfl
 exact (fn_callsP okF okM Tryz.func80 (by kernel_rfl) (by kernel_rfl) (e.mpr h)).mono fun _ _ he=> he.elim (fun ⟨_,he,hR⟩=> .inl ⟨he,hR⟩) .inr
def S81L1 (t1 : Option Addr) (x5 : Slc) (R : World -> Prop) (PR : Value -> World -> Prop) (I66 : Int -> World -> Prop) (s64 : Int) (z65 : World) : Prop :=
 Br (decide (s64 < ((x5.len : Nat) : Int))) (0 <= s64 /\ s64 < (x5.len : Nat) /\ Nn x5.p fun a67=>
  Ld z65 (a67.add ((s64).toNat * 6)) (.int .i64) fun x68=>
  Ld z65 ((a67.add ((s64).toNat * 6)).add 1) (.int .i64) fun x69=>
  Ld z65 ((a67.add ((s64).toNat * 6)).add 2) (.int .i64) fun x70=>
  Ld z65 ((a67.add ((s64).toNat * 6)).add 3) .string fun x71=>
  Ld z65 ((a67.add ((s64).toNat * 6)).add 4) Slc.v fun x72=>
  Ld z65 ((a67.add ((s64).toNat * 6)).add 5) Slc.v fun x73=>
  Nw z65 (.cells #[.int .i64 0,.int .i64 0,.int .i64 0,.string (⟨#[]⟩ : ByteArray),Slc.v ((⟨none,0,0⟩ : Slc)),Slc.v ((⟨none,0,0⟩ : Slc))] 61) fun z74=>
  St z74 ⟨z65.heap.size,0,none⟩ (.int .i64 x68) fun z75=>
  St z75 (.add ⟨z65.heap.size,0,none⟩ 1) (.int .i64 x69) fun z76=>
  St z76 (.add ⟨z65.heap.size,0,none⟩ 2) (.int .i64 x70) fun z77=>
  St z77 (.add ⟨z65.heap.size,0,none⟩ 3) (.string x71) fun z78=>
  St z78 (.add ⟨z65.heap.size,0,none⟩ 4) (Slc.v x72) fun z79=>
  St z79 (.add ⟨z65.heap.size,0,none⟩ 5) (Slc.v x73) fun z80=>
  Ld z80 ⟨z65.heap.size,0,none⟩ (.int .i64) fun x84=>
  Br (x84 == 4) (Ld z80 (.add ⟨z65.heap.size,0,none⟩ 3) .string fun x85=>
   C80 t1 x85 z80 (fun z86=>
    I66 (IntKind.i64.wrap (s64 + 1)) z86) PR) (Nn t1 fun a87=>
   LdT z80 (a87.add 13) 0 LiA30 fun (x88 : TyA30)=>
   C31 x88 z80 (fun z89=>
    Ld z89 ⟨z65.heap.size,0,none⟩ (.int .i64) fun x90=>
    Ld z89 (.add ⟨z65.heap.size,0,none⟩ 1) (.int .i64) fun x91=>
    Ld z89 (.add ⟨z65.heap.size,0,none⟩ 2) (.int .i64) fun x92=>
    Ld z89 (.add ⟨z65.heap.size,0,none⟩ 3) .string fun x93=>
    Ld z89 (.add ⟨z65.heap.size,0,none⟩ 4) Slc.v fun x94=>
    Ld z89 (.add ⟨z65.heap.size,0,none⟩ 5) Slc.v fun x95=>
    C114 (x90,x91,x92,x93,x94,x95) z89 fun r96 r97 z98=>
     ∃ vS99 : World -> Prop,vS99 z98.drew /\ Nn t1 fun a100=>
     LdS vS99 (((a100.add 13).add 22).add 4) (.int .i64) fun x101=>
     C100 r96 1000 z98.drew fun r102 r103 z104=>
      vS99 z104 /\ C62 r102 r103 z104 (fun r105 z106=>
       vS99 z106 /\ C64 r105 x101 z106 fun r107 r108 z109=>
        C62 r107 r108 z109 (fun r110 z111=>
         ∃ vS112 : World -> Prop,vS112 z111.drew /\ Nn t1 fun a113=>
         LdST vS112 (a113.add 13) 0 LiA83 fun (x114 : TyA83)=>
         Nn t1 fun a115=>
         LdS vS112 (a115.add 1) (.int .i64) fun x116=>
         LdS vS112 ((a115.add 1).add 1) (.int .i64) fun x117=>
         LdS vS112 ((a115.add 1).add 2) (.int .i64) fun x118=>
         LdS vS112 ((a115.add 1).add 3) (.int .i64) fun x119=>
         LdS vS112 ((a115.add 1).add 4) (.int .i64) fun x120=>
         LdS vS112 ((a115.add 1).add 5) (.int .i64) fun x121=>
         C61 x114 r110 z111.drew (fun r122 z123=>
          vS112 z123 /\ C58 (IntKind.i64.wrap (0 - r122)) z123 (fun r124 z125=>
           vS112 z125 /\ C116 r124 0 z125 fun r126 z127=>
            vS112 z127 /\ C115 (r126.1,r126.2.1,r126.2.2.1,r126.2.2.2.1,r126.2.2.2.2.1,r126.2.2.2.2.2) (x116,x117,x118,x119,x120,x121) z127 fun r128 r129 z130=>
             C89 (r128.1,r128.2.1,r128.2.2.1,r128.2.2.2.1,r128.2.2.2.2.1,r128.2.2.2.2.2) r129 z130 (fun r131 z132=>
              Nn t1 fun a133=>
              St z132 (a133.add 1) (.int .i64 (r131.1)) fun z134=>
              St z134 ((a133.add 1).add 1) (.int .i64 (r131.2.1)) fun z135=>
              St z135 ((a133.add 1).add 2) (.int .i64 (r131.2.2.1)) fun z136=>
              St z136 ((a133.add 1).add 3) (.int .i64 (r131.2.2.2.1)) fun z137=>
              St z137 ((a133.add 1).add 4) (.int .i64 (r131.2.2.2.2.1)) fun z138=>
              St z138 ((a133.add 1).add 5) (.int .i64 (r131.2.2.2.2.2)) fun z139=>
              I66 (IntKind.i64.wrap (s64 + 1)) z139) PR) PR) PR) PR) PR) PR)) (R z65)
def S81L2 (t1 : Option Addr) (x5 : Slc) (R : World -> Prop) (PR : Value -> World -> Prop) (I37 : Int -> World -> Prop) (s35 : Int) (z36 : World) : Prop :=
 Br (decide (s35 < ((x5.len : Nat) : Int))) (0 <= s35 /\ s35 < (x5.len : Nat) /\ Nn x5.p fun a38=>
  Ld z36 (a38.add ((s35).toNat * 6)) (.int .i64) fun x39=>
  Ld z36 ((a38.add ((s35).toNat * 6)).add 1) (.int .i64) fun x40=>
  Ld z36 ((a38.add ((s35).toNat * 6)).add 2) (.int .i64) fun x41=>
  Ld z36 ((a38.add ((s35).toNat * 6)).add 3) .string fun x42=>
  Ld z36 ((a38.add ((s35).toNat * 6)).add 4) Slc.v fun x43=>
  Ld z36 ((a38.add ((s35).toNat * 6)).add 5) Slc.v fun x44=>
  Nw z36 (.cells #[.int .i64 0,.int .i64 0,.int .i64 0,.string (⟨#[]⟩ : ByteArray),Slc.v ((⟨none,0,0⟩ : Slc)),Slc.v ((⟨none,0,0⟩ : Slc))] 61) fun z45=>
  St z45 ⟨z36.heap.size,0,none⟩ (.int .i64 x39) fun z46=>
  St z46 (.add ⟨z36.heap.size,0,none⟩ 1) (.int .i64 x40) fun z47=>
  St z47 (.add ⟨z36.heap.size,0,none⟩ 2) (.int .i64 x41) fun z48=>
  St z48 (.add ⟨z36.heap.size,0,none⟩ 3) (.string x42) fun z49=>
  St z49 (.add ⟨z36.heap.size,0,none⟩ 4) (Slc.v x43) fun z50=>
  St z50 (.add ⟨z36.heap.size,0,none⟩ 5) (Slc.v x44) fun z51=>
  Ld z51 ⟨z36.heap.size,0,none⟩ (.int .i64) fun x52=>
  Ld z51 (.add ⟨z36.heap.size,0,none⟩ 1) (.int .i64) fun x53=>
  Ld z51 (.add ⟨z36.heap.size,0,none⟩ 2) (.int .i64) fun x54=>
  Ld z51 (.add ⟨z36.heap.size,0,none⟩ 3) .string fun x55=>
  Ld z51 (.add ⟨z36.heap.size,0,none⟩ 4) Slc.v fun x56=>
  Ld z51 (.add ⟨z36.heap.size,0,none⟩ 5) Slc.v fun x57=>
  C114 (x52,x53,x54,x55,x56,x57) z51 fun r58 r59 z60=>
   Br r59 (C39 true 28 z60 (fun z61=>
     I37 (IntKind.i64.wrap (s35 + 1)) z61) PR) (Ld z60 ⟨z36.heap.size,0,none⟩ (.int .i64) fun x62=>
    C39 (x62 == 4) 28 z60 (fun z63=>
     I37 (IntKind.i64.wrap (s35 + 1)) z63) PR)) (Lp (σ := Int) (S81L1 t1 x5 R PR) 0 z36)
def S81 (t1 : Option Addr) (w : World) (R : World -> Prop) (PR : Value -> World -> Prop) : Prop :=
 Nn t1 fun a2=>
 Ld w ((a2.add 50).add 1) Slc.v fun x3=>
 0 <= (0 : Int) /\ (0 : Int) < (x3.len : Nat) /\ Nn x3.p fun a4=>
 Ld w ((a4.add (((0 : Int)).toNat * 6)).add 5) Slc.v fun x5=>
 Lp (σ := Int) (S81L2 t1 x5 R PR) 0 w
def pl81 : Plan := (.q (.seq (.q (.block (.loop [(22,(.one (.int .i64)))] [0,2,20,21] (.q (.seq (.cond .leaf .leaf) (.seq (.block (.q (.q (.reg .seq)))) (.reg .seq))))))) (.q (.block (.loop [(41,(.one (.int .i64)))] [0,39,40] (.q (.seq (.cond .leaf .leaf) (.seq (.block (.q (.seq (.q (.cond (.q .leaf) .leaf)) (.q (.q (.seq (.reg (.held [12] (.take 0 (.take 5 (.take 6 (.take 7 (.take 8 (.take 9 (.take 10 (.take 11 (.eff 1 none (.take 2 (.take 3 (.eff 4 none (.eff 12 (some [15]) (.take 13 (.take 14 (.eff 15 (some []) (.take 16 .done))))))))))))))))))) (.reg (.held [15] (.take 0 (.take 1 (.take 2 (.take 3 (.take 4 (.take 5 (.take 10 (.take 11 (.take 12 (.take 13 (.take 14 (.eff 6 none (.take 7 (.eff 8 none (.eff 9 none (.eff 15 (some [18]) (.take 16 (.take 17 (.eff 18 (some [22]) (.take 19 (.take 20 (.take 21 (.eff 22 (some []) .done))))))))))))))))))))))))))))))) (.reg .seq)))))))))
theorem T81 (t1 : Option Addr) (w : World) (R : World -> Prop) (PR : Value -> World -> Prop) (h : S81 t1 w R PR) : C81 t1 w R PR := by
 have e : fnT Tryz.prog ⟨FF,MAY,PR⟩ pl81 Tryz.f81 [.pointer t1] w [] (fun _ w=> R w) = S81 t1 w R PR := by kernel_rfl
 exact (fn_callsP okF okM Tryz.func81 (by kernel_rfl) (by kernel_rfl) (e.mpr h)).mono fun _ _ he=> he.elim (fun ⟨_,he,hR⟩=> .inl ⟨he,hR⟩) .inr
def S44J1 (t1 : Option Addr) (x3 : ByteArray) (R : World -> Prop) (PR : Value -> World -> Prop) (s16 : Bool) (z17 : World) : Prop :=
 Br s16 (Nn t1 fun a18=>
  Ld z17.drew (a18.add 53) Slc.v fun x19=>
  0 <= (0 : Int) /\ (0 : Int) < (x19.len : Nat) /\ Nn x19.p fun a20=>
  Ld z17.drew (a20.add (((0 : Int)).toNat * 1)) (.int .i64) fun x21=>
  Nn t1 fun a22=>
  Ld z17.drew (a22.add 53) Slc.v fun x23=>
  0 <= (1 : Int) /\ (1 : Int) < (x23.len : Nat) /\ Nn x23.p fun a24=>
  Ld z17.drew (a24.add (((1 : Int)).toNat * 1)) (.int .i64) fun x25=>
  C77 t1 x21 x25 z17.drew (fun z26=>
   R z26) PR) (Br (x3.toList == (⟨#[84,42]⟩ : ByteArray).toList) (C78 t1 z17 (fun z27=>
    R z27) PR) (Br (x3.toList == (⟨#[84,109]⟩ : ByteArray).toList) (C79 t1 z17 (fun z28=>
     R z28) PR) (Br (x3.toList == (⟨#[84,106]⟩ : ByteArray).toList) (Nn t1 fun a29=>
     Ld z17 ((a29.add 50).add 1) Slc.v fun x30=>
     0 <= (0 : Int) /\ (0 : Int) < (x30.len : Nat) /\ Nn x30.p fun a31=>
     Ld z17 ((a31.add (((0 : Int)).toNat * 6)).add 3) .string fun x32=>
     C80 t1 x32 z17 (fun z33=>
      R z33) PR) (Br (x3.toList == (⟨#[39]⟩ : ByteArray).toList) (C78 t1 z17 (fun z34=>
       Nn t1 fun a35=>
       Ld z34 ((a35.add 50).add 1) Slc.v fun x36=>
       0 <= (0 : Int) /\ (0 : Int) < (x36.len : Nat) /\ Nn x36.p fun a37=>
       Ld z34 ((a37.add (((0 : Int)).toNat * 6)).add 3) .string fun x38=>
       C80 t1 x38 z34 (fun z39=>
        R z39) PR) PR) (Br (x3.toList == (⟨#[34]⟩ : ByteArray).toList) (∃ vS40 : World -> Prop,vS40 z17.drew /\ Nn t1 fun a41=>
       LdS vS40 (a41.add 53) Slc.v fun x42=>
       0 <= (0 : Int) /\ (0 : Int) < (x42.len : Nat) /\ Nn x42.p fun a43=>
       LdS vS40 (a43.add (((0 : Int)).toNat * 1)) (.int .i64) fun x44=>
       Nn t1 fun a45=>
       LdS vS40 (a45.add 53) Slc.v fun x46=>
       0 <= (1 : Int) /\ (1 : Int) < (x46.len : Nat) /\ Nn x46.p fun a47=>
       LdS vS40 (a47.add (((1 : Int)).toNat * 1)) (.int .i64) fun x48=>
       Nn t1 fun a49=>
       St z17.drew (((a49.add 13).add 22).add 1) (.int .i64 x44) fun z50=>
       Nn t1 fun a51=>
       St z50 ((a51.add 13).add 22) (.int .i64 x48) fun z52=>
       C78 t1 z52 (fun z53=>
        Nn t1 fun a54=>
        Ld z53 ((a54.add 50).add 1) Slc.v fun x55=>
        0 <= (2 : Int) /\ (2 : Int) < (x55.len : Nat) /\ Nn x55.p fun a56=>
        Ld z53 ((a56.add (((2 : Int)).toNat * 6)).add 3) .string fun x57=>
        C80 t1 x57 z53 (fun z58=>
         R z58) PR) PR) (Br (x3.toList == (⟨#[84,74]⟩ : ByteArray).toList) (C81 t1 z17 (fun z59=>
         R z59) PR) (R z17)))))))
def S44 (t1 : Option Addr) (w : World) (R : World -> Prop) (PR : Value -> World -> Prop) : Prop :=
 Nn t1 fun a2=>
 Ld w (a2.add 50) .string fun x3=>
 Br (x3.toList == (⟨#[66,84]⟩ : ByteArray).toList) (C24 w fun r4 z5=>
   C24 z5 fun r6 z7=>
    Nn t1 fun a8=>
    StT a8 0 LiA38 ((true,r4.1,r4.2.1,r4.2.2.1,r4.2.2.2.1,r4.2.2.2.2.1,r4.2.2.2.2.2,r6.1,r6.2.1,r6.2.2.1,r6.2.2.2.1,r6.2.2.2.2.1,r6.2.2.2.2.2) : TyA38) z7 fun z9=>
    R z9) (Br (x3.toList == (⟨#[69,84]⟩ : ByteArray).toList) (C7 w fun r10 z11=>
    Nn r10 fun a12=>
    LdT z11 a12 0 LiA38 fun (x13 : TyA38)=>
    Nn t1 fun a14=>
    StT a14 0 LiA38 x13 z11 fun z15=>
    R z15) (Join (S44J1 t1 x3 R PR) fun (vJ60 : Bool -> World -> Prop)=>
    Br (x3.toList == (⟨#[84,100]⟩ : ByteArray).toList) (vJ60 (x3.toList == (⟨#[84,100]⟩ : ByteArray).toList) w) (vJ60 (x3.toList == (⟨#[84,68]⟩ : ByteArray).toList) w)))
def pl44 : Plan := (.q (.block (.q (.cond (.reg .seq) (.q (.cond (.reg .seq) (.join [(23,(.one .bool))] [0,6] (.q (.cond .leaf (.reg .seq))) (.cond (.reg (.tail 13)) (.q (.cond (.reg .seq) (.q (.cond (.reg .seq) (.q (.cond (.reg .seq) (.q (.cond (.q (.reg .seq)) (.q (.cond (.seq (.reg (.held [19] (.take 0 (.take 1 (.take 2 (.take 3 (.take 4 (.take 5 (.take 6 (.take 7 (.take 8 (.take 9 (.take 10 (.take 11 (.take 12 (.take 13 (.take 14 (.take 15 (.take 16 (.take 17 (.take 18 (.eff 19 (some [25]) (.take 20 (.take 21 (.take 22 (.take 23 (.take 24 (.eff 25 (some []) .done)))))))))))))))))))))))))))) (.q (.reg .seq))) (.q (.cond (.reg .seq) .leaf))))))))))))))))))))
theorem T44 (t1 : Option Addr) (w : World) (R : World -> Prop) (PR : Value -> World -> Prop) (h : S44 t1 w R PR) : C44 t1 w R PR := by
 have e : fnT Tryz.prog ⟨FF,MAY,PR⟩ pl44 Tryz.f44 [.pointer t1] w [] (fun _ w=> R w) = S44 t1 w R PR := by kernel_rfl
 exact (fn_callsP okF okM Tryz.func44 (by kernel_rfl) (by kernel_rfl) (e.mpr h)).mono fun _ _ he=> he.elim (fun ⟨_,he,hR⟩=> .inl ⟨he,hR⟩) .inr
def S13P (z7 : World) (z8 : World) (R : Slc -> Int -> World -> Prop) (x11 : Value) (z10 : World) : Prop :=
 CD38 ⟨z8.heap.size,0,none⟩ ⟨z7.heap.size,0,none⟩ (some x11) z10 fun z12=>
  Ld z12 ⟨z7.heap.size,0,none⟩ Slc.v fun x13=>
  Ld z12 ⟨z8.heap.size,0,none⟩ (.int .i64) fun x14=>
  R x13 x14 z12
def S13 (x1 : Option Addr) (o2 : ByteArray × Slc × ByteArray) (g3 : TyA30) (f4 : TyA34) (w : World) (R : Slc -> Int -> World -> Prop) : Prop :=
 Nw w (.cells #[.string o2.1,Slc.v o2.2.1,.string o2.2.2] 48) fun z5=>
 Nw z5 (.cells (Sig.cells LiA30 g3).toArray 31) fun z6=>
 Nw z6 (.cells (Sig.cells LiA34 f4).toArray 35) fun z7=>
 Nw z7 (.cells #[Slc.v ((⟨none,0,0⟩ : Slc))] 49) fun z8=>
 Nw z8 (.cells #[.int .i64 0] 43) fun z9=>
 C39 (!(x1.isNone)) 1 z9 (fun z15=>
  Ld z15 ⟨w.heap.size,0,none⟩ .string fun x16=>
  C40 x16 z15 fun r17 z18=>
   C39 r17 8 z18 (fun z19=>
    ∃ vS20 : World -> Prop,vS20 z19.drew /\ LdS vS20 ⟨w.heap.size,0,none⟩ .string fun x21=>
    LdS vS20 (.add ⟨w.heap.size,0,none⟩ 1) Slc.v fun x22=>
    LdS vS20 (.add ⟨w.heap.size,0,none⟩ 2) .string fun x23=>
    LdS vS20 ⟨w.heap.size,0,none⟩ .string fun x24=>
    LdS vS20 (.add ⟨w.heap.size,0,none⟩ 1) Slc.v fun x25=>
    LdS vS20 (.add ⟨w.heap.size,0,none⟩ 2) .string fun x26=>
    C42 (x24,x25,x26) z19.drew fun r27 z28=>
     vS20 z28 /\ C41 (x21,x22,x23) r27 z28 (fun r29 z30=>
      Nn x1 fun a31=>
      Ld z30.drew a31 Value.bool fun (x32 : Bool)=>
      Ld z30.drew ⟨w.heap.size,0,none⟩ .string fun x33=>
      C39 (x32 == (!(x33.toList == (⟨#[66,84]⟩ : ByteArray).toList))) 29 z30.drew (fun z34=>
       ∃ vS35 : World -> Prop,vS35 z34.drew /\ Nn x1 fun a36=>
       LdST vS35 a36 0 LiA38 fun (x37 : TyA38)=>
       LdST vS35 ⟨z5.heap.size,0,none⟩ 0 LiA30 fun (x38 : TyA30)=>
       LdST vS35 ⟨z6.heap.size,0,none⟩ 0 LiA34 fun (x39 : TyA34)=>
       LdS vS35 ⟨w.heap.size,0,none⟩ .string fun x40=>
       LdS vS35 (.add ⟨w.heap.size,0,none⟩ 1) Slc.v fun x41=>
       LdS vS35 (.add ⟨w.heap.size,0,none⟩ 2) .string fun x42=>
       LdS vS35 ⟨w.heap.size,0,none⟩ .string fun x43=>
       LdS vS35 (.add ⟨w.heap.size,0,none⟩ 1) Slc.v fun x44=>
       LdS vS35 (.add ⟨w.heap.size,0,none⟩ 2) .string fun x45=>
       C43 (x43,x44,x45) z34.drew (fun r46 z47=>
        vS35 z47 /\ Nw z47 (.cells #[.bool x37.1,.int .i64 (x37.2.1),.int .i64 (x37.2.2.1),.int .i64 (x37.2.2.2.1),.int .i64 (x37.2.2.2.2.1),.int .i64 (x37.2.2.2.2.2.1),.int .i64 (x37.2.2.2.2.2.2.1),.int .i64 (x37.2.2.2.2.2.2.2.1),.int .i64 (x37.2.2.2.2.2.2.2.2.1),.int .i64 (x37.2.2.2.2.2.2.2.2.2.1),.int .i64 (x37.2.2.2.2.2.2.2.2.2.2.1),.int .i64 (x37.2.2.2.2.2.2.2.2.2.2.2.1),.int .i64 (x37.2.2.2.2.2.2.2.2.2.2.2.2),.int .i64 (x38.1),.int .i64 (x38.2.1),.int .i64 (x38.2.2.1),.int .i64 (x38.2.2.2.1),.int .i64 (x38.2.2.2.2.1),.int .i64 (x38.2.2.2.2.2.1),.int .i64 (x38.2.2.2.2.2.2.1),.int .i64 (x38.2.2.2.2.2.2.2.1),.int .i64 (x38.2.2.2.2.2.2.2.2.1),.int .i64 (x38.2.2.2.2.2.2.2.2.2.1),Slc.v x38.2.2.2.2.2.2.2.2.2.2.1,.int .i64 (x38.2.2.2.2.2.2.2.2.2.2.2.1),.int .i64 (x38.2.2.2.2.2.2.2.2.2.2.2.2.1),.int .i64 (x38.2.2.2.2.2.2.2.2.2.2.2.2.2.1),.int .i64 (x38.2.2.2.2.2.2.2.2.2.2.2.2.2.2.1),.int .i64 (x38.2.2.2.2.2.2.2.2.2.2.2.2.2.2.2.1),.int .i64 (x38.2.2.2.2.2.2.2.2.2.2.2.2.2.2.2.2.1),.int .i64 (x38.2.2.2.2.2.2.2.2.2.2.2.2.2.2.2.2.2.1),.int .i64 (x38.2.2.2.2.2.2.2.2.2.2.2.2.2.2.2.2.2.2.1),.int .i64 (x38.2.2.2.2.2.2.2.2.2.2.2.2.2.2.2.2.2.2.2.1),.int .i64 (x38.2.2.2.2.2.2.2.2.2.2.2.2.2.2.2.2.2.2.2.2.1),.int .i64 (x38.2.2.2.2.2.2.2.2.2.2.2.2.2.2.2.2.2.2.2.2.2.1),.int .i64 (x38.2.2.2.2.2.2.2.2.2.2.2.2.2.2.2.2.2.2.2.2.2.2.1),.int .i64 (x38.2.2.2.2.2.2.2.2.2.2.2.2.2.2.2.2.2.2.2.2.2.2.2.1),.int .i64 (x38.2.2.2.2.2.2.2.2.2.2.2.2.2.2.2.2.2.2.2.2.2.2.2.2.1),.int .i64 (x38.2.2.2.2.2.2.2.2.2.2.2.2.2.2.2.2.2.2.2.2.2.2.2.2.2.1),.int .i64 (x38.2.2.2.2.2.2.2.2.2.2.2.2.2.2.2.2.2.2.2.2.2.2.2.2.2.2.1),.int .i64 (x38.2.2.2.2.2.2.2.2.2.2.2.2.2.2.2.2.2.2.2.2.2.2.2.2.2.2.2.1),.string x38.2.2.2.2.2.2.2.2.2.2.2.2.2.2.2.2.2.2.2.2.2.2.2.2.2.2.2.2.1,.int .i64 (x38.2.2.2.2.2.2.2.2.2.2.2.2.2.2.2.2.2.2.2.2.2.2.2.2.2.2.2.2.2),.string x39.1,.bool x39.2.1,.int .i64 (x39.2.2.1),Slc.v x39.2.2.2.1,.int .i64 (x39.2.2.2.2.1),Slc.v x39.2.2.2.2.2.1,Slc.v x39.2.2.2.2.2.2,.string x40,Slc.v x41,.string x42,Slc.v r46,Slc.v ((⟨none,0,0⟩ : Slc))] 94) fun z48=>
        C44 (some ⟨z47.heap.size,0,none⟩) z48 (fun z49=>
         Nn (some ⟨z47.heap.size,0,none⟩) fun a50=>
         LdT z49 a50 0 LiA38 fun (x51 : TyA38)=>
         Nn x1 fun a52=>
         StT a52 0 LiA38 x51 z49 fun z53=>
         Nn (some ⟨z47.heap.size,0,none⟩) fun a54=>
         Ld z53 (a54.add 54) Slc.v fun x55=>
         St z53 ⟨z7.heap.size,0,none⟩ (Slc.v x55) fun z56=>
         St z56 ⟨z8.heap.size,0,none⟩ (.int .i64 0) fun z57=>
         CD38 ⟨z8.heap.size,0,none⟩ ⟨z7.heap.size,0,none⟩ none z57 fun z58=>
          Ld z58 ⟨z7.heap.size,0,none⟩ Slc.v fun x59=>
          Ld z58 ⟨z8.heap.size,0,none⟩ (.int .i64) fun x60=>
          R x59 x60 z58) (S13P z7 z8 R)) (S13P z7 z8 R)) (S13P z7 z8 R)) (S13P z7 z8 R)) (S13P z7 z8 R)) (S13P z7 z8 R)
def pl13 : DPlan := (.pre (.reg .seq) (.here [8,9] (.q (.q (.seq (.reg (.held [3] (.take 0 (.take 1 (.eff 2 none (.eff 3 (some []) .done)))))) (.seq (.reg (.tail 8)) (.seq (.reg (.held [10] (.take 0 (.take 1 (.take 2 (.take 3 (.take 4 (.take 5 (.take 6 (.take 7 (.eff 8 none (.take 9 (.eff 10 (some []) (.take 11 .done)))))))))))))) (.q (.q (.q .leaf))))))))))
theorem T13 (x1 : Option Addr) (o2 : ByteArray × Slc × ByteArray) (g3 : TyA30) (f4 : TyA34) (w : World) (R : Slc -> Int -> World -> Prop) (h : S13 x1 o2 g3 f4 w R) : C13 x1 (o2.1,o2.2.1,o2.2.2) g3 f4 w R := by
 have e : fnTD Tryz.prog FF MAY (fun _ _=> False) pl13 Tryz.f13 [.pointer x1,.agg #[.string o2.1,Slc.v o2.2.1,.string o2.2.2],.agg (Sig.cells LiA30 g3).toArray,.agg (Sig.cells LiA34 f4).toArray] w [(.one .slc),(.one (.int .i64))] (fun s w=> R s.1 s.2 w) = S13 x1 o2 g3 f4 w R := by kernel_rfl
 exact (fnD_calls okF okM Tryz.func13 (by kernel_rfl) (by kernel_rfl) (e.mpr h)).mono fun _ _ ⟨s,he,hR⟩=> ⟨s.1,s.2,he,hR⟩
def S16 (x1 : Option Addr) (w : World) (R : Bool -> World -> Prop) : Prop :=
 Br (!(x1.isNone)) (Nn x1 fun a2=>
  Ld w a2 Value.bool fun (x3 : Bool)=>
  R x3 w) (R false w)
def pl16 : Plan := (.q (.q .leaf))
theorem T16 (x1 : Option Addr) (w : World) (R : Bool -> World -> Prop) (h : S16 x1 w R) : C16 x1 w R := by
 have e : fnT Tryz.prog ⟨FF,MAY,(fun _ _=> False)⟩ pl16 Tryz.f16 [.pointer x1] w [(.one .bool)] (fun s w=> R s w) = S16 x1 w R := by kernel_rfl
 exact (fn_calls okF okM Tryz.func16 (by kernel_rfl) (by kernel_rfl) (e.mpr h)).mono fun _ _ ⟨s,he,hR⟩=> ⟨s,he,hR⟩
def S17 (x1 : Option Addr) (w : World) (R : (Int × Int × Int × Int × Int × Int) -> World -> Prop) : Prop :=
 Nw w (.cells #[.int .i64 0,.int .i64 0,.int .i64 0,.int .i64 0,.int .i64 0,.int .i64 0] 24) fun z2=>
 Br x1.isNone (C24 z2 fun r11 z12=>
   St z12 ⟨w.heap.size,0,none⟩ (.int .i64 (r11.1)) fun z13=>
   St z13 (.add ⟨w.heap.size,0,none⟩ 1) (.int .i64 (r11.2.1)) fun z14=>
   St z14 (.add ⟨w.heap.size,0,none⟩ 2) (.int .i64 (r11.2.2.1)) fun z15=>
   St z15 (.add ⟨w.heap.size,0,none⟩ 3) (.int .i64 (r11.2.2.2.1)) fun z16=>
   St z16 (.add ⟨w.heap.size,0,none⟩ 4) (.int .i64 (r11.2.2.2.2.1)) fun z17=>
   St z17 (.add ⟨w.heap.size,0,none⟩ 5) (.int .i64 (r11.2.2.2.2.2)) fun z18=>
   Ld z18 ⟨w.heap.size,0,none⟩ (.int .i64) fun x19=>
   Ld z18 (.add ⟨w.heap.size,0,none⟩ 1) (.int .i64) fun x20=>
   Ld z18 (.add ⟨w.heap.size,0,none⟩ 2) (.int .i64) fun x21=>
   Ld z18 (.add ⟨w.heap.size,0,none⟩ 3) (.int .i64) fun x22=>
   Ld z18 (.add ⟨w.heap.size,0,none⟩ 4) (.int .i64) fun x23=>
   Ld z18 (.add ⟨w.heap.size,0,none⟩ 5) (.int .i64) fun x24=>
   R (x19,x20,x21,x22,x23,x24) z18) (Nn x1 fun a25=>
  Ld z2 (a25.add 1) (.int .i64) fun x26=>
  Ld z2 ((a25.add 1).add 1) (.int .i64) fun x27=>
  Ld z2 ((a25.add 1).add 2) (.int .i64) fun x28=>
  Ld z2 ((a25.add 1).add 3) (.int .i64) fun x29=>
  Ld z2 ((a25.add 1).add 4) (.int .i64) fun x30=>
  Ld z2 ((a25.add 1).add 5) (.int .i64) fun x31=>
  St z2 ⟨w.heap.size,0,none⟩ (.int .i64 x26) fun z32=>
  St z32 (.add ⟨w.heap.size,0,none⟩ 1) (.int .i64 x27) fun z33=>
  St z33 (.add ⟨w.heap.size,0,none⟩ 2) (.int .i64 x28) fun z34=>
  St z34 (.add ⟨w.heap.size,0,none⟩ 3) (.int .i64 x29) fun z35=>
  St z35 (.add ⟨w.heap.size,0,none⟩ 4) (.int .i64 x30) fun z36=>
  St z36 (.add ⟨w.heap.size,0,none⟩ 5) (.int .i64 x31) fun z37=>
  Ld z37 ⟨w.heap.size,0,none⟩ (.int .i64) fun x38=>
  Ld z37 (.add ⟨w.heap.size,0,none⟩ 1) (.int .i64) fun x39=>
  Ld z37 (.add ⟨w.heap.size,0,none⟩ 2) (.int .i64) fun x40=>
  Ld z37 (.add ⟨w.heap.size,0,none⟩ 3) (.int .i64) fun x41=>
  Ld z37 (.add ⟨w.heap.size,0,none⟩ 4) (.int .i64) fun x42=>
  Ld z37 (.add ⟨w.heap.size,0,none⟩ 5) (.int .i64) fun x43=>
  R (x38,x39,x40,x41,x42,x43) z37)
def pl17 : Plan := (.q (.seq (.q (.cond (.q .leaf) .leaf)) (.q .leaf)))
theorem T17 (x1 : Option Addr) (w : World) (R : (Int × Int × Int × Int × Int × Int) -> World -> Prop) (h : S17 x1 w R) : C17 x1 w R := by
 have e : fnT Tryz.prog ⟨FF,MAY,(fun _ _=> False)⟩ pl17 Tryz.f17 [.pointer x1] w [(.agg [(.int .i64),(.int .i64),(.int .i64),(.int .i64),(.int .i64),(.int .i64)])] (fun s w=> R s w) = S17 x1 w R := by kernel_rfl
 exact (fn_calls okF okM Tryz.func17 (by kernel_rfl) (by kernel_rfl) (e.mpr h)).mono fun _ _ ⟨s,he,hR⟩=> ⟨s,he,hR⟩
end Go.Proofs.YtcblpehnkogfdaaGreatDoor

/- Text machines: what they do, plain; small functions. Conditions: sizes, the laid tables. -/
namespace Go.Proofs.YtcblpehnkogfdaaGreatDoor
namespace Ma
open Sh Mat Fix Fo Sw Opr Pat
set_option maxRecDepth 4000
set_option maxHeartbeats 4000000
structure Mc where
 on : Bool
 text : Mx
 line : Mx
def mcc (m : Mc) : List Value := [.bool m.on,.int .i64 (m.text.1),.int .i64 (m.text.2.1),.int .i64 (m.text.2.2.1),.int .i64 (m.text.2.2.2.1),.int .i64 (m.text.2.2.2.2.1),.int .i64 (m.text.2.2.2.2.2),.int .i64 (m.line.1),.int .i64 (m.line.2.1),.int .i64 (m.line.2.2.1),.int .i64 (m.line.2.2.2.1),.int .i64 (m.line.2.2.2.2.1),.int .i64 (m.line.2.2.2.2.2)]
def m0 : Mc := ⟨false,one,one⟩
abbrev TK : TypeId := 73
abbrev TU : TypeId := 94
abbrev TG : TypeId := 31
abbrev TF : TypeId := 35
abbrev TM : TypeId := 24
abbrev OpT := ByteArray × Slc × ByteArray
def tcl (m : Mc) (g : GT) (x : FT) (o : OpT) (ns gs : Slc) : List Value := [.bool m.on,.int .i64 (m.text.1),.int .i64 (m.text.2.1),.int .i64 (m.text.2.2.1),.int .i64 (m.text.2.2.2.1),.int .i64 (m.text.2.2.2.2.1),.int .i64 (m.text.2.2.2.2.2),.int .i64 (m.line.1),.int .i64 (m.line.2.1),.int .i64 (m.line.2.2.1),.int .i64 (m.line.2.2.2.1),.int .i64 (m.line.2.2.2.2.1),.int .i64 (m.line.2.2.2.2.2),.int .i64 (g.1),.int .i64 (g.2.1),.int .i64 (g.2.2.1),.int .i64 (g.2.2.2.1),.int .i64 (g.2.2.2.2.1),.int .i64 (g.2.2.2.2.2.1),.int .i64 (g.2.2.2.2.2.2.1),.int .i64 (g.2.2.2.2.2.2.2.1),.int .i64 (g.2.2.2.2.2.2.2.2.1),.int .i64 (g.2.2.2.2.2.2.2.2.2.1),Slc.v (g.2.2.2.2.2.2.2.2.2.2.1),.int .i64 (g.2.2.2.2.2.2.2.2.2.2.2.1),.int .i64 (g.2.2.2.2.2.2.2.2.2.2.2.2.1),.int .i64 (g.2.2.2.2.2.2.2.2.2.2.2.2.2.1),.int .i64 (g.2.2.2.2.2.2.2.2.2.2.2.2.2.2.1),.int .i64 (g.2.2.2.2.2.2.2.2.2.2.2.2.2.2.2.1),.int .i64 (g.2.2.2.2.2.2.2.2.2.2.2.2.2.2.2.2.1),.int .i64 (g.2.2.2.2.2.2.2.2.2.2.2.2.2.2.2.2.2.1),.int .i64 (g.2.2.2.2.2.2.2.2.2.2.2.2.2.2.2.2.2.2.1),.int .i64 (g.2.2.2.2.2.2.2.2.2.2.2.2.2.2.2.2.2.2.2.1),.int .i64 (g.2.2.2.2.2.2.2.2.2.2.2.2.2.2.2.2.2.2.2.2.1),.int .i64 (g.2.2.2.2.2.2.2.2.2.2.2.2.2.2.2.2.2.2.2.2.2.1),.int .i64 (g.2.2.2.2.2.2.2.2.2.2.2.2.2.2.2.2.2.2.2.2.2.2.1),.int .i64 (g.2.2.2.2.2.2.2.2.2.2.2.2.2.2.2.2.2.2.2.2.2.2.2.1),.int .i64 (g.2.2.2.2.2.2.2.2.2.2.2.2.2.2.2.2.2.2.2.2.2.2.2.2.1),.int .i64 (g.2.2.2.2.2.2.2.2.2.2.2.2.2.2.2.2.2.2.2.2.2.2.2.2.2.1),.int .i64 (g.2.2.2.2.2.2.2.2.2.2.2.2.2.2.2.2.2.2.2.2.2.2.2.2.2.2.1),.int .i64 (g.2.2.2.2.2.2.2.2.2.2.2.2.2.2.2.2.2.2.2.2.2.2.2.2.2.2.2.1),.string (g.2.2.2.2.2.2.2.2.2.2.2.2.2.2.2.2.2.2.2.2.2.2.2.2.2.2.2.2.1),.int .i64 (g.2.2.2.2.2.2.2.2.2.2.2.2.2.2.2.2.2.2.2.2.2.2.2.2.2.2.2.2.2),.string (x.1),.bool (x.2.1),.int .i64 (x.2.2.1),Slc.v (x.2.2.2.1),.int .i64 (x.2.2.2.2.1),Slc.v (x.2.2.2.2.2.1),Slc.v (x.2.2.2.2.2.2),.string o.1,Slc.v o.2.1,.string o.2.2,Slc.v ns,Slc.v gs]
@[simp] theorem tcl_len (m : Mc) (g : GT) (x : FT) (o : OpT) (ns gs : Slc) : (tcl m g x o ns gs).length = 55 := rfl
def ten : List Opr.By := [[66,84],[69,84],[84,100],[84,68],[84,42],[84,109],[84,106],[39],[34],[84,74]]
def isNum (o : Ob) : Bool := decide (o.1 = 2) || decide (o.1 = 3)
def moveF (line : Mx) (a b : Int) : Option Mx := mulP (moveM a b) line
def nextF (g : GT) (line : Mx) : Option Mx := if useG g = true then moveF line 0 (-(tlead g)) else none
noncomputable def showF (g : GT) (f : Font) (text : Mx) (gl : List GlT) (s : ByteArray) : Int × List GlT × Mx :=
 if (stringF g text f s).2.2 ≠ 0 then ((stringF g text f s).2.2,gl,text) else if 16384 < gl.length + (stringF g text f s).1.length then (6,gl,text) else (0,gl ++ (stringF g text f s).1,(stringF g text f s).2.1)
def near3 (n : Int) : Int := (n + 500) / 1000
def backF (g : GT) (text : Mx) (n : Int) : Option Mx := if useG g = true then (mulO (near3 n) (tsize g)).bind fun w=> (scaledP g w).bind fun t=> mulP (moveM (-t) 0) text else none
noncomputable def kidF (g : GT) (f : Font) (text : Mx) (gl : List GlT) (o : Ob) : Int × List GlT × Mx := if o.1 = 4 then showF g f text gl o.2.2.2.1 else match backF g text ((numV o).getD 0) with
 | some m=> (0,gl,m)
 | none=> (2,gl,text)
noncomputable def rowF (g : GT) (f : Font) : List Ob -> Mx -> List GlT -> Int × List GlT × Mx
 | [],text,gl=> (0,gl,text)
 | o :: K,text,gl=> if (kidF g f text gl o).1 ≠ 0 then ((kidF g f text gl o).1,gl,text) else rowF g f K (kidF g f text gl o).2.2 (kidF g f text gl o).2.1
def kidOk (o : Ob) : Bool := (numV o).isSome || decide (o.1 = 4)
def spaced (g : GT) (a b : Int) : GT := (g.1,g.2.1,g.2.2.1,g.2.2.2.1,g.2.2.2.2.1,g.2.2.2.2.2.1,g.2.2.2.2.2.2.1,g.2.2.2.2.2.2.2.1,g.2.2.2.2.2.2.2.2.1,g.2.2.2.2.2.2.2.2.2.1,g.2.2.2.2.2.2.2.2.2.2.1,g.2.2.2.2.2.2.2.2.2.2.2.1,g.2.2.2.2.2.2.2.2.2.2.2.2.1,g.2.2.2.2.2.2.2.2.2.2.2.2.2.1,g.2.2.2.2.2.2.2.2.2.2.2.2.2.2.1,g.2.2.2.2.2.2.2.2.2.2.2.2.2.2.2.1,g.2.2.2.2.2.2.2.2.2.2.2.2.2.2.2.2.1,g.2.2.2.2.2.2.2.2.2.2.2.2.2.2.2.2.2.1,g.2.2.2.2.2.2.2.2.2.2.2.2.2.2.2.2.2.2.1,g.2.2.2.2.2.2.2.2.2.2.2.2.2.2.2.2.2.2.2.1,g.2.2.2.2.2.2.2.2.2.2.2.2.2.2.2.2.2.2.2.2.1,g.2.2.2.2.2.2.2.2.2.2.2.2.2.2.2.2.2.2.2.2.2.1,b,a,(tx g).2.2)
noncomputable def shownF (g : GT) (f : Font) (m : Mc) (s : ByteArray) : Int × Mc × List GlT :=
 ((showF g f m.text [] s).1,{ m with text := (showF g f m.text [] s).2.2 },(showF g f m.text [] s).2.1)
noncomputable def linedF (g : GT) (f : Font) (m : Mc) (s : ByteArray) : Int × Mc × List GlT := match nextF g m.line with
 | some l=> shownF g f ⟨m.on,l,l⟩ s
 | none=> (2,m,[])
def movedF (m : Mc) (p : Option Mx) : Int × Mc × List GlT := match p with
 | some l=> (0,⟨m.on,l,l⟩,[])
 | none=> (2,m,[])
def arg (L : List Ob) (i : Nat) : Ob := L.getD i ob0
noncomputable def actF (g : GT) (f : Font) (m : Mc) (nm : Opr.By) (L K : List Ob) (n : List Int) : Int × Mc × List GlT :=
 if nm = [66,84] then (0,⟨true,one,one⟩,[]) else if nm = [69,84] then (0,m0,[]) else if nm = [84,100] \/ nm = [84,68] then movedF m (moveF m.line (n.getD 0 0) (n.getD 1 0))
 else if nm = [84,42] then movedF m (nextF g m.line) else if nm = [84,109] then movedF m (if Mat.okM (n.getD 0 0,n.getD 1 0,n.getD 2 0,n.getD 3 0,n.getD 4 0,n.getD 5 0) = true then some (n.getD 0 0,n.getD 1 0,n.getD 2 0,n.getD 3 0,n.getD 4 0,n.getD 5 0) else none)
 else if nm = [84,106] then shownF g f m (arg L 0).2.2.2.1 else if nm = [39] then linedF g f m (arg L 0).2.2.2.1 else if nm = [34] then linedF (spaced g (n.getD 0 0) (n.getD 1 0)) f m (arg L 2).2.2.2.1
 else if K.all kidOk = false then (28,m,[]) else ((rowF g f K m.text []).1,{ m with text := (rowF g f K m.text []).2.2 },(rowF g f K m.text []).2.1)
noncomputable def doF (g : GT) (f : Font) (m : Mc) (nm : Opr.By) (L K : List Ob) (d : Opr.By) : Int × Mc × List GlT :=
 if nm ∉ ten then (8,m,[]) else if Opr.chkF nm L d ≠ 0 then (Opr.chkF nm L d,m,[]) else if m.on = decide (nm = [66,84]) then (29,m,[]) else match nmO (L.filter isNum) with
 | none=> (2,m,[])
 | some n=> if (actF g f m nm L K n).1 ≠ 0 then ((actF g f m nm L K n).1,m,[]) else actF g f m nm L K n
attribute [local irreducible] Ld Sh.St Nw Nn Lt LdS
theorem c_new (w : World) : C7 w fun r w1=> ∃ b,r = some ⟨b,0,none⟩ /\ w.heap.size <= b /\ Blk w1 b (mcc m0).toArray TK /\ Ext (fun _=> False) w w1 := by
 refine T7 _ _ ?_
 unfold S7
 refine (Mat.c_one _).mono ?_
 rintro r1 w2 ⟨rfl,e2⟩
 refine (Mat.c_one _).mono ?_
 rintro r3 w4 ⟨rfl,e4⟩
 have H := ((Hn.start w).keep e2).keep e4
 refine H.nw fun w5 H=> ⟨_,rfl,(e2.tr e4).size,H.get 0 rfl,H.ext⟩
section
variable {w : World} {m : Mc} {b : Nat}
theorem c_on (h : Blk w b (mcc m).toArray TK) : C16 (some (⟨b,0,none⟩ : Addr)) w fun r w1=> r = m.on /\ w1 = w := by
 refine T16 _ _ _ ?_
 unfold S16
 exact Sh.Br.t rfl (Nn.of (Ld.of h (x := m.on) rfl ⟨rfl,rfl⟩))
theorem c_matrix (h : Blk w b (mcc m).toArray TK) : C17 (some (⟨b,0,none⟩ : Addr)) w fun r w1=> r = m.text /\ Ext (fun _=> False) w w1 := by
 refine T17 _ _ _ ?_
 unfold S17
 refine (Hn.start w).nw fun w2 H=> Sh.Br.f rfl (Nn.of ?_)
 have hb := H.ext.blk h id
 refine Ld.of hb (x := m.text.1) rfl (Ld.of hb (x := m.text.2.1) rfl (Ld.of hb (x := m.text.2.2.1) rfl (Ld.of hb (x := m.text.2.2.2.1) rfl (Ld.of hb (x := m.text.2.2.2.2.1) rfl (Ld.of hb (x := m.text.2.2.2.2.2) rfl ?_)))))
 iterate 6 (refine H.st 0 rfl (by simp) fun _ H=> ?_; simp only [List.nil_append,List.cons_append,List.set_cons_zero,List.set_cons_succ,Nat.zero_add] at H)
 iterate 6 refine H.ld 0 rfl rfl ?_
 exact ⟨rfl,H.ext⟩
theorem c_knowsT (a : ByteArray) (w : World) : C40 a w fun r w1=> r = decide (Opr.bl a ∈ ten) /\ Ext (fun _=> False) w w1 := by
 refine T40 _ _ _ ?_
 unfold S40
 refine (Hn.start w).nw (cs := strsB ten) fun w2 H=> ?_
 refine (c_contains (SL.blk (H.get 0 rfl) rfl) (by decide) a).mono ?_
 rintro r w3 ⟨rfl,rfl⟩
 exact ⟨rfl,H.ext⟩
theorem c_mustO (x : OpT) (e : Int) (w : World) : C41 x e w (fun r w1=> r = x /\ e = 0 /\ Ext (fun _=> False) w w1) fun v w1=> v = Sw.gup e /\ e ≠ 0 /\ Ext (fun _=> False) w w1 := by
 refine T41 _ _ _ _ _ ?_
 unfold S41
 refine (Hn.start w).nw fun w3 H=> H.nw fun w4 H=> ?_
 refine (Sw.c_need _ e _).mono (fun w5 h=> ?_) fun v w5 h=> ⟨h.1,by simpa using h.2.1,by rw [h.2.2]; exact H.ext⟩
 obtain ⟨h1,rfl⟩ := h
 repeat (first | refine Lt.of ?_ | refine Nn.of ?_ | refine H.ld 0 rfl rfl ?_ | refine H.ld 1 rfl rfl ?_ | refine H.ld 2 rfl rfl ?_ | refine H.ld 3 rfl rfl ?_ | refine H.ld 4 rfl rfl ?_ | refine H.ld 5 rfl rfl ?_ | (refine H.st 0 rfl (by simp) fun _ H=> ?_; simp only [List.nil_append,List.cons_append,List.set_cons_zero,List.set_cons_succ,Nat.zero_add] at H) | (refine H.st 1 rfl (by simp) fun _ H=> ?_; simp only [List.nil_append,List.cons_append,List.set_cons_zero,List.set_cons_succ,Nat.zero_add] at H) | (refine H.st 2 rfl (by simp) fun _ H=> ?_; simp only [List.nil_append,List.cons_append,List.set_cons_zero,List.set_cons_succ,Nat.zero_add] at H) | (refine H.st 3 rfl (by simp) fun _ H=> ?_; simp only [List.nil_append,List.cons_append,List.set_cons_zero,List.set_cons_succ,Nat.zero_add] at H) | (refine H.st 4 rfl (by simp) fun _ H=> ?_; simp only [List.nil_append,List.cons_append,List.set_cons_zero,List.set_cons_succ,Nat.zero_add] at H) | (refine H.st 5 rfl (by simp) fun _ H=> ?_; simp only [List.nil_append,List.cons_append,List.set_cons_zero,List.set_cons_succ,Nat.zero_add] at H))
 exact ⟨rfl,by simpa using h1,H.ext⟩
theorem c_mustN (x : Slc) (e : Int) (w : World) : C75 x e w (fun r w1=> r = x /\ e = 0 /\ w1 = w) fun v w1=> v = Sw.gup e /\ e ≠ 0 /\ w1 = w := by
 refine T75 _ _ _ _ _ ?_
 unfold S75
 exact (Sw.c_need _ e w).mono (fun w1 h=> ⟨rfl,by simpa using h.1,h.2⟩) fun v w1 h=> ⟨h.1,by simpa using h.2.1,h.2.2⟩
end
end Ma
end Go.Proofs.YtcblpehnkogfdaaGreatDoor
namespace Go.Proofs.YtcblpehnkogfdaaGreatDoor
namespace Ma
open Sh Mat Fix Fo Sw Opr Pat
set_option maxRecDepth 4000
set_option maxHeartbeats 4000000
theorem fits_at {t : Opr.By} {L : List Ob} {i : Nat} {b : UInt8} {o : Ob} (h : fitsT t L = true) (hb : t[i]? = some b) (ho : L[i]? = some o) : fitsK b o.1 = true := by
 cases hf : fitsK b o.1 with
 | true=> rfl
 | false=>
  have := fitsT_no hb ho hf
  rw [h] at this
  cases this
theorem chk_parts {nm d : Opr.By} {L : List Ob} (h : Opr.chkF nm L d = 0) : (takes nm).length = L.length /\ fitsT (takes nm) L = true := by
 unfold Opr.chkF at h
 split at h
 ·cases h
 ·split at h
  ·cases h
  ·rename_i h2
   split at h
   ·cases h
   ·rename_i h3
    exact ⟨Decidable.of_not_not h2,by simpa using h3⟩
theorem ten_letters : (ten.all fun nm=> (takes nm).all fun b=> b == 110 || b == 115 || b == 97) = true := by decide +kernel
theorem letter_num {nm d : Opr.By} {L : List Ob} (h : Opr.chkF nm L d = 0) (hten : nm ∈ ten) {i : Nat} (hi : i < L.length) : ∃ b : UInt8,(takes nm)[i]? = some b /\ decide (b = 110) = isNum L[i] := by
 obtain ⟨h1,h2⟩ := chk_parts h
 have hi2 : i < (takes nm).length := by omega
 refine ⟨(takes nm)[i],List.getElem?_eq_getElem hi2,?_⟩
 have h3 := fits_at h2 (List.getElem?_eq_getElem hi2) (List.getElem?_eq_getElem hi)
 have h4 := List.all_eq_true.1 (List.all_eq_true.1 ten_letters nm hten) _ (List.getElem_mem hi2)
 generalize (takes nm)[i] = b at *
 generalize L[i] = o at *
 unfold fitsK at h3
 unfold isNum
 by_cases hb : b = 110
 ·subst hb
  rw [if_pos rfl] at h3
  rw [decide_eq_true rfl]
  simpa using h3.symm
 ·rw [decide_eq_false hb]
  rw [if_neg hb] at h3
  have hb2 : b = 115 \/ b = 97 := by simpa [hb] using h4
  rcases hb2 with rfl | rfl
  ·have : o.1 = 4 := by simpa using h3
   simp [this]
  ·have : o.1 = 6 := by simpa using h3
   simp [this]
attribute [local irreducible] Ld Sh.St Nw Nn Lt LdS
section
variable {w : World} {o : OpT} {L : List Ob}
theorem c_numbers (hT : AS w) (hL : OV w o.2.1 L) (hk : Opr.chkF (Opr.bl o.1) L (Opr.bl o.2.2) = 0) (hten : Opr.bl o.1 ∈ ten) : C43 o w (fun r w1=> ∃ n,nmO (L.filter isNum) = some n /\ IV w1 r n /\ Ext (fun _=> False) w w1)
  fun v w1=> v = Sw.gup 2 /\ nmO (L.filter isNum) = none /\ Ext (fun _=> False) w w1 := by
 refine T43 _ _ _ _ ?_
 unfold S43
 have h6 : L.length <= 6 := by
  have := (takes_low (Opr.bl o.1)).1
  have := (chk_parts hk).1
  omega
 refine (Hn.start w).nw fun w2 H=> ?_
 refine H.ld 0 rfl (x := o.1) rfl ?_
 refine (c_takes (hT.keep H.ext) o.1).mono ?_
 rintro r4 w5 ⟨rfl,e5⟩
 have H := H.keep e5
 refine H.ld 0 rfl (x := o.1) rfl ?_
 have hlt5 := H.lt 0 rfl
 refine H.nw fun w7 H=> ?_
 simp only [List.nil_append,List.cons_append,List.set_cons_zero,List.set_cons_succ,Nat.zero_add] at H
 iterate 3 (refine H.st 1 rfl (by simp) fun _ H=> ?_; simp only [List.nil_append,List.cons_append,List.set_cons_zero,List.set_cons_succ,Nat.zero_add] at H)
 refine H.ld 0 rfl (x := o.2.1) rfl ?_
 have hsz : (ba (takes (Opr.bl o.1))).size = L.length := by rw [ba_size,(chk_parts hk).1]
 refine ⟨fun n st w1=> ∃ (i : Nat) (r : Slc),st = (i : Int) /\ i <= L.length /\ n = L.length - i /\ Hn w w1 [(w.heap.size,[.string o.1,Slc.v o.2.1,.string o.2.2],48),(w5.heap.size,[.string o.1,Slc.v r,.string ⟨#[]⟩],48)] /\
  Row w1 r 61 6 (((L.take i).filter isNum).flatMap obrow) /\ (∀ j,r.own j -> w5.heap.size < j) /\ w5.heap.size < w1.heap.size,L.length,⟨0,⟨none,0,0⟩,rfl,Nat.zero_le _,rfl,H,Row.nil _ _ _,fun j hj=> (no_own j hj).elim,H.lt 1 rfl⟩,?_⟩
 rintro n st w42 ⟨i,r,rfl,hi,rfl,H,hR,ho,hlt⟩
 unfold S43L1
 rw [hL.1]
 refine Br.dec (fun q=> ⟨by omega,by omega,?_⟩) fun q=> ?_
 ·have hil : i < L.length := by omega
  obtain ⟨a,ha,c0,c1,c2,c3,c4,c5⟩ := (hL.keep H.ext).get (List.getElem?_eq_getElem hil)
  rw [ha,Int.toNat_natCast]
  refine Nn.of (Ld.mk c0 (Ld.mk c1 (Ld.mk c2 (Ld.mk c3 (Ld.mk c4 (Ld.mk c5 ?_))))))
  have HM := H
  have H := Hn.start w42
  refine H.nw fun w51 H=> ?_
  simp only [List.nil_append,List.cons_append,List.set_cons_zero,List.set_cons_succ,Nat.zero_add] at H
  iterate 6 (refine H.st 0 rfl (by simp) fun _ H=> ?_; simp only [List.nil_append,List.cons_append,List.set_cons_zero,List.set_cons_succ,Nat.zero_add] at H)
  refine ⟨by omega,by rw [hsz]; omega,?_⟩
  obtain ⟨b,hb,hbn⟩ := letter_num hk hten hil
  have hbt : bAt (ba (takes (Opr.bl o.1))) (i : Int) = (b.toNat : Int) := by
   rw [bAt_list]
   have : (ba (takes (Opr.bl o.1))).data.toList.getD i 0 = b := by
    show (Opr.bl (ba (takes (Opr.bl o.1)))).getD i 0 = b
    rw [bl_ba,List.getD_eq_getElem?_getD,hb]
    rfl
   rw [this]
  rw [hbt]
  have htk : (L.take (i + 1)).filter isNum = (L.take i).filter isNum ++ (if isNum L[i] = true then [L[i]] else []) := by
   rw [Sh.take_succ hil,List.filter_append]
   cases hn : isNum L[i] with
   | true=> simp [hn]
   | false=> simp [hn]
  rename_i wq
  have HMq := HM.keep H.ext
  refine Br.eq (fun q2=> ?_) fun q2=> ?_
  ·have hb1 : b = 110 := by
    apply UInt8.toNat_inj.1
    have : (110 : UInt8).toNat = 110 := rfl
    omega
   have hn : isNum L[i] = true := by rw [<- hbn]; exact decide_eq_true hb1
   refine HMq.ld 1 rfl (x := r) rfl ?_
   iterate 6 refine H.ld 0 rfl rfl ?_
   refine Nw.of ?_
   have e1 := (Ext.refl (fun _=> False) wq).alloc (.cells (obrow L[i]).toArray 61)
   have hrl : r.len * 6 = ((L.take i).filter isNum).length * 6 := by
    have := hR.1
    rw [obs_len] at this
    omega
   have hfl : ((L.take i).filter isNum).length <= 6 := by
    have := List.length_filter_le isNum (L.take i)
    rw [List.length_take] at this
    omega
   obtain ⟨s',w',hrun,hrow,hlen',hext,hown⟩ := elOb.app1 (ty := 46) (ys := obrow L[i]) ((hR.keep H.ext fun _ _ e=> e).keep e1 fun _ _ e=> e) (Blk.new wq (obrow L[i]).toArray 61) rfl (ob_one _) (by omega) (by omega)
   refine ⟨s',w',hrun,?_⟩
   have HA : Hn w w' [(w.heap.size,[.string o.1,Slc.v o.2.1,.string o.2.2],48),(w5.heap.size,[.string o.1,Slc.v r,.string ⟨#[]⟩],48)] := (HMq.keep e1).other hext fun j hj=> by
    have h1 := ho j hj
    refine ⟨by omega,?_⟩
    simp only [List.map_cons,List.map_nil,List.mem_cons,List.not_mem_nil,or_false]
    omega
   have hs1 := H.size
   have hs2 := e1.size
   have hs3 := hext.size
   have own2 : ∀ j,s'.own j -> w5.heap.size < j := fun j hj=> by
    rcases hown j hj with h1 | h1
    ·exact ho j h1
    ·omega
   refine HA.st' 1 rfl (by simp) fun w68 HB he=> ⟨L.length - (i + 1),by omega,i + 1,s',by rw [i64_id (by omega)]; rfl,by omega,rfl,HB,?_,own2,by have := he.size; omega⟩
   rw [htk,hn,if_pos rfl,List.flatMap_append]
   refine Row.keep (by simpa using hrow) he fun j hj e=> ?_
   have e : j = w5.heap.size := e
   have := own2 j hj
   omega
  ·have hn : isNum L[i] = false := by
    rw [<- hbn]
    refine decide_eq_false fun e=> q2 ?_
    rw [e]
    rfl
   refine ⟨L.length - (i + 1),by omega,i + 1,r,by rw [i64_id (by omega)]; rfl,by omega,rfl,HMq,?_,ho,by have := H.size; omega⟩
   rw [htk,hn,if_neg (by decide),List.append_nil]
   exact hR.keep H.ext fun _ _ e=> e
 ·have : i = L.length := by omega
  subst this
  rw [List.take_length] at hR
  refine H.ld 1 rfl (x := o.1) rfl (H.ld 1 rfl (x := r) rfl (H.ld 1 rfl (x := ⟨#[]⟩) rfl ?_))
  have hov : OV w42 r (L.filter isNum) := ⟨by have := hR.1; rw [obs_len] at this; omega,hR.view⟩
  have hle := List.length_filter_le isNum L
  refine (c_nums (a := o.1) (d := ⟨#[]⟩) hov (by omega) (fun o2 ho2=> ?_)).mono ?_
  ·have := (List.mem_filter.1 ho2).2
   unfold isNum at this
   simpa using this
  ·rintro r2 e w74 ⟨e74,hm⟩
   have E := H.ext.tr e74
   cases hn : nmO (L.filter isNum) with
   | none=>
    rw [hn] at hm
    obtain rfl : e = 2 := hm
    exact (c_mustN _ 2 _).mono (fun r3 w3 h=> by cases h.2.1) fun v w3 h=> ⟨h.1,rfl,by rw [h.2.2]; exact E⟩
   | some l=>
    rw [hn] at hm
    obtain ⟨rfl,hio⟩ : e = 0 /\ IO w42 w74 r2 l := hm
    refine (c_mustN _ 0 _).mono (fun r3 w3 h=> ?_) fun v w3 h=> absurd rfl h.2.1
    obtain ⟨rfl,_,rfl⟩ := h
    exact ⟨l,rfl,hio.iv,E⟩
end
end Ma
end Go.Proofs.YtcblpehnkogfdaaGreatDoor

/- Text machines: a turn's moves and shows. Conditions: sizes, the laid tables. -/
namespace Go.Proofs.YtcblpehnkogfdaaGreatDoor
namespace Ma
open Sh Mat Fix Fo Sw Opr Pat
set_option maxRecDepth 8000
set_option maxHeartbeats 4000000
theorem st_mat {w : World} {b o : Nat} {t : TypeId} {K : World -> Prop} (r : Mx) {pre zs post : List Value} (h : Blk w b (pre ++ (zs ++ post)).toArray t) (ho : pre.length = o) (hz : zs.length = 6) (k : ∀ w2,Blk w2 b (pre ++ (mrow r ++ post)).toArray t -> Ext (· = b) w w2 -> K w2) :
  Sh.St w (⟨b,o,none⟩ : Addr) (.int .i64 r.1) fun w1=> Sh.St w1 (⟨b,o + 1,none⟩ : Addr) (.int .i64 r.2.1) fun w2=> Sh.St w2 (⟨b,o + 2,none⟩ : Addr) (.int .i64 r.2.2.1) fun w3=>
   Sh.St w3 (⟨b,o + 3,none⟩ : Addr) (.int .i64 r.2.2.2.1) fun w4=> Sh.St w4 (⟨b,o + 4,none⟩ : Addr) (.int .i64 r.2.2.2.2.1) fun w5=> Sh.St w5 (⟨b,o + 5,none⟩ : Addr) (.int .i64 r.2.2.2.2.2) fun w6=> K w6 :=
 stL_blk (mrow r) zs pre post o w h ho hz k
attribute [local irreducible] Ld Sh.St Nw Nn Lt LdS
theorem st_mx {w : World} {b : Nat} {m : Mx} (h : Blk w b (mrow m).toArray TM) (r : Mx) {K : World -> Prop} (k : ∀ w2,Ext (· = b) w w2 -> Blk w2 b (mrow r).toArray TM -> K w2) :
  St w (⟨b,0,none⟩ : Addr) (.int .i64 r.1) fun w1=> St w1 ((⟨b,0,none⟩ : Addr).add 1) (.int .i64 r.2.1) fun w2=> St w2 ((⟨b,0,none⟩ : Addr).add 2) (.int .i64 r.2.2.1) fun w3=>
   St w3 ((⟨b,0,none⟩ : Addr).add 3) (.int .i64 r.2.2.2.1) fun w4=> St w4 ((⟨b,0,none⟩ : Addr).add 4) (.int .i64 r.2.2.2.2.1) fun w5=> St w5 ((⟨b,0,none⟩ : Addr).add 5) (.int .i64 r.2.2.2.2.2) fun w6=> K w6 := by
 have H := Hx.one (F := (· = b)) h
 refine H.st 0 rfl (by simp) (.inl rfl) fun _ H=> H.st 0 rfl (by simp) (.inl rfl) fun _ H=> H.st 0 rfl (by simp) (.inl rfl) fun _ H=> H.st 0 rfl (by simp) (.inl rfl) fun _ H=> H.st 0 rfl (by simp) (.inl rfl) fun _ H=> H.st 0 rfl (by simp) (.inl rfl) fun _ H=> ?_
 exact k _ H.ext (H.get 0 rfl)
theorem mk_mx (w : World) (r : Mx) {K : World -> Prop} (k : ∀ w2,Ext (fun _=> False) w w2 -> Blk w2 w.heap.size (mrow r).toArray TM -> K w2) :
  Nw w (.cells #[.int .i64 0,.int .i64 0,.int .i64 0,.int .i64 0,.int .i64 0,.int .i64 0] TM) fun w0=>
  St w0 (⟨w.heap.size,0,none⟩ : Addr) (.int .i64 r.1) fun w1=> St w1 ((⟨w.heap.size,0,none⟩ : Addr).add 1) (.int .i64 r.2.1) fun w2=> St w2 ((⟨w.heap.size,0,none⟩ : Addr).add 2) (.int .i64 r.2.2.1) fun w3=>
   St w3 ((⟨w.heap.size,0,none⟩ : Addr).add 3) (.int .i64 r.2.2.2.1) fun w4=> St w4 ((⟨w.heap.size,0,none⟩ : Addr).add 4) (.int .i64 r.2.2.2.2.1) fun w5=> St w5 ((⟨w.heap.size,0,none⟩ : Addr).add 5) (.int .i64 r.2.2.2.2.2) fun w6=> K w6 := by
 refine (Hn.start w).nw fun w1 H=> ?_
 exact st_mx (m := noM) (H.get 0 rfl) r fun w2 e hb=> k w2 (ext_new H.ext e fun j hj=> Nat.le_of_eq hj.symm) hb
structure TS (w0 w : World) (b : Nat) (m : Mc) (g : GT) (x : FT) (o : OpT) (ns : Slc) (gl : List GlT) (gs : Slc) : Prop where
 blk : Blk w b (tcl m g x o ns gs).toArray TU
 ge : w0.heap.size <= b
 ext : Ext (fun _=> False) w0 w
 row : Row w gs 70 9 (gl.flatMap glc)
 own : ∀ j,gs.own j -> b < j
section
variable {w0 w w' : World} {b : Nat} {m : Mc} {g : GT} {x : FT} {o : OpT} {ns gs : Slc} {gl : List GlT} {f : Font}
theorem TS.keep (T : TS w0 w b m g x o ns gl gs) (e : Ext (fun _=> False) w w') : TS w0 w' b m g x o ns gl gs := ⟨e.blk T.blk id,T.ge,T.ext.tr e,T.row.keep e fun _ _ h=> h,T.own⟩
theorem TS.upd {m' : Mc} {g' : GT} (T : TS w0 w b m g x o ns gl gs) (hb : Blk w' b (tcl m' g' x o ns gs).toArray TU) (e : Ext (· = b) w w') : TS w0 w' b m' g' x o ns gl gs :=
 ⟨hb,T.ge,ext_new T.ext e fun j hj=> by rw [hj]; exact T.ge,T.row.keep e fun j hj h=> by have := T.own j hj; omega,T.own⟩
theorem TS.line (T : TS w0 w b m g x o ns gl gs) (r : Mx) {K : World -> Prop} (k : ∀ w2,TS w0 w2 b ⟨m.on,m.text,r⟩ g x o ns gl gs -> Ext (· = b) w w2 -> K w2) :
  Sh.St w (⟨b,7,none⟩ : Addr) (.int .i64 r.1) fun w1=> Sh.St w1 (⟨b,8,none⟩ : Addr) (.int .i64 r.2.1) fun w2=> Sh.St w2 (⟨b,9,none⟩ : Addr) (.int .i64 r.2.2.1) fun w3=>
   Sh.St w3 (⟨b,10,none⟩ : Addr) (.int .i64 r.2.2.2.1) fun w4=> Sh.St w4 (⟨b,11,none⟩ : Addr) (.int .i64 r.2.2.2.2.1) fun w5=> Sh.St w5 (⟨b,12,none⟩ : Addr) (.int .i64 r.2.2.2.2.2) fun w6=> K w6 :=
 st_mat (o := 7) r (pre := (tcl m g x o ns gs).take 7) (zs := mrow m.line) (post := (tcl m g x o ns gs).drop 13) T.blk rfl rfl fun w2 hb e=> k w2 (T.upd hb e) e
theorem TS.text (T : TS w0 w b m g x o ns gl gs) (r : Mx) {K : World -> Prop} (k : ∀ w2,TS w0 w2 b ⟨m.on,r,m.line⟩ g x o ns gl gs -> Ext (· = b) w w2 -> K w2) :
  Sh.St w (⟨b,1,none⟩ : Addr) (.int .i64 r.1) fun w1=> Sh.St w1 (⟨b,2,none⟩ : Addr) (.int .i64 r.2.1) fun w2=> Sh.St w2 (⟨b,3,none⟩ : Addr) (.int .i64 r.2.2.1) fun w3=>
   Sh.St w3 (⟨b,4,none⟩ : Addr) (.int .i64 r.2.2.2.1) fun w4=> Sh.St w4 (⟨b,5,none⟩ : Addr) (.int .i64 r.2.2.2.2.1) fun w5=> Sh.St w5 (⟨b,6,none⟩ : Addr) (.int .i64 r.2.2.2.2.2) fun w6=> K w6 :=
 st_mat (o := 1) r (pre := (tcl m g x o ns gs).take 1) (zs := mrow m.text) (post := (tcl m g x o ns gs).drop 7) T.blk rfl rfl fun w2 hb e=> k w2 (T.upd hb e) e
theorem c_tmove (T : TS w0 w b m g x o ns gl gs) (a c : Int) : C77 (some (⟨b,0,none⟩ : Addr)) a c w (fun w1=> ∃ l,moveF m.line a c = some l /\ TS w0 w1 b ⟨m.on,l,l⟩ g x o ns gl gs)
  fun v w1=> v = Sw.gup 2 /\ moveF m.line a c = none /\ Ext (fun _=> False) w0 w1 := by
 refine T77 _ _ _ _ _ _ ?_
 unfold S77
 have TD := T.keep (Ext.refl (fun _=> False) w).drew
 have cl : ∀ {j : Nat} {v : Value},(tcl m g x o ns gs)[j]? = some v -> w.drew.cell? ⟨b,j,none⟩ = some v := fun {j v} hj=> by
  rw [TD.blk.cell,List.getElem?_toArray]
  exact hj
 refine ⟨Ext (fun _=> False) w.drew,Ext.refl _ _,Nn.of ?_⟩
 refine ldS_ext (x := m.line.1) (cl rfl) (ldS_ext (x := m.line.2.1) (cl rfl) (ldS_ext (x := m.line.2.2.1) (cl rfl) (ldS_ext (x := m.line.2.2.2.1) (cl rfl) (ldS_ext (x := m.line.2.2.2.2.1) (cl rfl) (ldS_ext (x := m.line.2.2.2.2.2) (cl rfl) ?_)))))
 refine (c_move a c _).mono ?_
 rintro mv w13 ⟨rfl,e13⟩
 refine ⟨e13,(Mat.c_mul (moveM a c) m.line _).mono ?_⟩
 rintro l e w16 ⟨hl,e16⟩
 have E16 := e13.tr e16
 refine (Sw.c_mustM l e _).mono (fun r w18 h18=> ?_) fun v w18 h18=> ?_
 case refine_2=>
  obtain ⟨hn,rfl⟩ := resM_no hl h18.2.1
  exact ⟨h18.1,hn,TD.ext.tr (E16.tr h18.2.2)⟩
 obtain ⟨rfl,rfl,e18⟩ := h18
 have hl := resM_yes hl
 have T2 := TD.keep (E16.tr e18)
 refine Nn.of (T2.line r fun w25 T3 _=> Nn.of ?_)
 have hb := T3.blk
 refine Ld.of hb (x := r.1) rfl (Ld.of hb (x := r.2.1) rfl (Ld.of hb (x := r.2.2.1) rfl (Ld.of hb (x := r.2.2.2.1) rfl (Ld.of hb (x := r.2.2.2.2.1) rfl (Ld.of hb (x := r.2.2.2.2.2) rfl ?_)))))
 exact Nn.of (T3.text r fun w39 T4 _=> ⟨r,hl,T4⟩)
theorem useG_lead (h : useG g = true) : inW (tlead g) = true := by
 unfold useG texts at h
 simp only [Bool.and_eq_true,List.all_cons,List.all_nil] at h
 exact h.2.2.2.2.1
theorem c_tnext (T : TS w0 w b m g x o ns gl gs) : C78 (some (⟨b,0,none⟩ : Addr)) w (fun w1=> ∃ l,nextF g m.line = some l /\ TS w0 w1 b ⟨m.on,l,l⟩ g x o ns gl gs)
  fun v w1=> v = Sw.gup 2 /\ nextF g m.line = none /\ Ext (fun _=> False) w0 w1 := by
 refine T78 _ _ _ _ ?_
 unfold S78
 refine Nn.of (LdT.blk (ts := LiA30) (pre := (tcl m g x o ns gs).take 13) (post := (tcl m g x o ns gs).drop 43) (t := TU) (x := g) T.blk rfl ?_)
 unfold nextF
 refine (c_use g _).mono (fun w4 h4=> ?_) fun v w4 h4=> ⟨h4.1,by rw [if_neg (by rw [h4.2.1]; decide)],T.ext.tr h4.2.2⟩
 obtain ⟨hg,e4⟩ := h4
 have T2 := T.keep e4
 refine Nn.of (Ld.of T2.blk (x := tlead g) rfl ?_)
 have hw := inW_spec.1 (useG_lead hg)
 rw [i64_id (n := 0 - tlead g) (by omega),if_pos hg,Int.zero_sub]
 exact (c_tmove T2 0 (-(tlead g))).mono (fun w1 h=> h) fun v w1 h=> h
def six (n : List Int) : Mx := (n.getD 0 0,n.getD 1 0,n.getD 2 0,n.getD 3 0,n.getD 4 0,n.getD 5 0)
theorem c_tset (T : TS w0 w b m g x o ns gl gs) {n : List Int} (hn : IV w0 ns n) (h6 : n.length = 6) : C79 (some (⟨b,0,none⟩ : Addr)) w (fun w1=> Mat.okM (six n) = true /\ TS w0 w1 b ⟨m.on,six n,six n⟩ g x o ns gl gs)
  fun v w1=> v = Sw.gup 2 /\ Mat.okM (six n) = false /\ Ext (fun _=> False) w0 w1 := by
 refine T79 _ _ _ _ ?_
 unfold S79
 refine Nn.of (Ld.of T.blk (x := ns) rfl ?_)
 have TD := T.keep (Ext.refl (fun _=> False) w).drew
 have hD := hn.keep TD.ext
 obtain ⟨a,ha,_⟩ := hD.get (i := 0) (by omega)
 have hc : ∀ i,i < 6 -> w.drew.cell? (a.add (i * 1)) = some (.int .i64 (n.getD i 0)) := fun i hi=> by
  obtain ⟨a',ha',hc⟩ := hD.get (i := i) (by omega)
  rw [ha] at ha'
  cases ha'
  exact hc
 rw [ha,hD.1,h6]
 refine ⟨Ext (fun _=> False) w.drew,Ext.refl _ _,?_⟩
 refine ⟨by decide,by decide,Nn.of (ldS_ext (x := n.getD 0 0) (hc 0 (by decide)) ?_)⟩
 refine ⟨by decide,by decide,Nn.of (ldS_ext (x := n.getD 1 0) (hc 1 (by decide)) ?_)⟩
 refine ⟨by decide,by decide,Nn.of (ldS_ext (x := n.getD 2 0) (hc 2 (by decide)) ?_)⟩
 refine ⟨by decide,by decide,Nn.of (ldS_ext (x := n.getD 3 0) (hc 3 (by decide)) ?_)⟩
 refine ⟨by decide,by decide,Nn.of (ldS_ext (x := n.getD 4 0) (hc 4 (by decide)) ?_)⟩
 refine ⟨by decide,by decide,Nn.of (ldS_ext (x := n.getD 5 0) (hc 5 (by decide)) ?_)⟩
 refine (Hn.start w.drew).nw fun w17 H=> ⟨H.ext,?_⟩
 have h00 : w.drew.heap.size < w17.heap.size := H.lt 0 rfl
 simp only [List.nil_append,List.cons_append,List.set_cons_zero,List.set_cons_succ,Nat.zero_add] at H
 iterate 6 (refine H.st 0 rfl (by simp) fun _ H=> ?_; simp only [List.nil_append,List.cons_append,List.set_cons_zero,List.set_cons_succ,Nat.zero_add] at H)
 rename_i wq
 have H := H.drew
 have E1 := H.ext
 have hbm : Blk wq.drew w.drew.heap.size (mrow (six n)).toArray TM := H.get 0 rfl
 have cl : ∀ {j : Nat} {v : Value},(mrow (six n))[j]? = some v -> wq.drew.cell? ⟨w.drew.heap.size,j,none⟩ = some v := fun {j v} hj=> by
  rw [hbm.cell,List.getElem?_toArray]
  exact hj
 have TQ := TD.keep E1
 refine ⟨Ext (fun _=> False) wq.drew,Ext.refl _ _,?_⟩
 refine ldS_ext (cl rfl) (ldS_ext (cl rfl) (ldS_ext (cl rfl) (ldS_ext (cl rfl) (ldS_ext (cl rfl) (ldS_ext (cl rfl) ?_)))))
 refine ldS_ext (cl rfl) (ldS_ext (cl rfl) (ldS_ext (cl rfl) (ldS_ext (cl rfl) (ldS_ext (cl rfl) (ldS_ext (cl rfl) ?_)))))
 refine (Mat.c_check (six n) _).mono ?_
 rintro r w38 ⟨rfl,e38⟩
 refine ⟨e38,(Sw.c_mustM (six n) _ _).mono (fun r w40 h40=> ?_) fun v w40 h40=> ?_⟩
 case refine_2=>
  obtain ⟨rfl,h0,e40⟩ := h40
  have hm : Mat.okM (six n) = false := by
   cases hm : Mat.okM (six n) with
   | false=> rfl
   | true=> rw [hm] at h0; exact absurd rfl h0
  exact ⟨by rw [hm]; rfl,hm,TQ.ext.tr (e38.tr e40)⟩
 obtain ⟨_,h0,e40⟩ := h40
 have hm : Mat.okM (six n) = true := by
  cases hm : Mat.okM (six n) with
  | true=> rfl
  | false=> rw [hm] at h0; cases h0
 have E40 := (e38.tr e40).drew
 have T40 := TQ.keep E40
 have hb40 := E40.blk hbm id
 have hne : ¬ w.drew.heap.size = b := fun e=> by
  have h1 := TD.blk.lt
  omega
 refine ⟨fun w'=> Blk w' w.drew.heap.size (mrow (six n)).toArray TM,hb40,?_⟩
 have cs : ∀ {j : Nat} {v : Value},(mrow (six n))[j]? = some v -> ∀ w' : World,Blk w' w.drew.heap.size (mrow (six n)).toArray TM -> w'.cell? ⟨w.drew.heap.size,j,none⟩ = some v := fun {j v} hj w' hw=> by
  rw [hw.cell,List.getElem?_toArray]
  exact hj
 refine ldS_mk (x := n.getD 0 0) (cs rfl) (ldS_mk (x := n.getD 1 0) (cs rfl) (ldS_mk (x := n.getD 2 0) (cs rfl) (ldS_mk (x := n.getD 3 0) (cs rfl) (ldS_mk (x := n.getD 4 0) (cs rfl) (ldS_mk (x := n.getD 5 0) (cs rfl) ?_)))))
 refine ldS_mk (x := n.getD 0 0) (cs rfl) (ldS_mk (x := n.getD 1 0) (cs rfl) (ldS_mk (x := n.getD 2 0) (cs rfl) (ldS_mk (x := n.getD 3 0) (cs rfl) (ldS_mk (x := n.getD 4 0) (cs rfl) (ldS_mk (x := n.getD 5 0) (cs rfl) ?_)))))
 refine Nn.of (T40.text (six n) fun w60 T60 e60=> ⟨e60.blk hb40 hne,Nn.of (T60.line (six n) fun w67 T67 _=> ⟨hm,T67⟩)⟩)
end
end Ma
end Go.Proofs.YtcblpehnkogfdaaGreatDoor
namespace Go.Proofs.YtcblpehnkogfdaaGreatDoor
namespace Ma
open Sh Mat Fix Fo Sw Opr Pat
set_option maxRecDepth 8000
set_option maxHeartbeats 4000000
theorem st_one {w : World} {b o : Nat} {t : TypeId} {K : World -> Prop} {cs : List Value} {v : Value} (h : Blk w b cs.toArray t) (ho : o < cs.length) (k : ∀ w2,Blk w2 b (cs.set o v).toArray t -> Ext (· = b) w w2 -> K w2) : Sh.St w (⟨b,o,none⟩ : Addr) v K := by
 have H := Hx.one (F := (· = b)) h
 exact H.st 0 rfl (by simpa using ho) (.inl rfl) fun w2 H=> k w2 (by have := H.get 0 rfl; simpa using this) H.ext
attribute [local irreducible] Ld Sh.St Nw Nn Lt LdS
section
variable {w0 w w' : World} {b : Nat} {m : Mc} {g : GT} {x : FT} {o : OpT} {ns gs : Slc} {gl : List GlT} {f : Font}
theorem showP_most {L : List GlT} {m' : Mx} {s : ByteArray} {tm : Mx} (h : askE g tm f s = 0) (hs : showP g f (codesF f.wide s).1 tm = some (L,m')) : L.length <= 16384 := by
 have h1 := showP_len _ hs
 have h2 := (ask_parts h).2.2.2.2
 omega
theorem tshow_end (T : TS w0 w b m g x o ns gl gs) (hgl : gl.length <= 16384) {s : ByteArray} {mb : Nat} {L : List GlT} {m2 : Mx} {r : Slc} (hF : stringF g m.text f s = (L,m2,0)) (hL : L.length <= 16384) (hv : VRow w r 9 (L.flatMap glc)) (hb : Blk w mb (mrow m2).toArray TM) (hlt : b < mb) (hmg : ∀ j,gs.own j -> j ≠ mb) :
  Nn (some (⟨b,0,none⟩ : Addr)) fun a53=> Ld w (a53.add 54) Slc.v fun (x54 : Slc)=>
   C39 (decide ((IntKind.i64.wrap (((x54.len : Nat) : Int) + ((r.len : Nat) : Int))) <= 16384)) 6 w (fun vw55=>
    Nn (some (⟨b,0,none⟩ : Addr)) fun a56=>
    Ld vw55 (a56.add 54) Slc.v fun (x57 : Slc)=>
    Rn Tryz.prog (Builtin.append_ #[49,49] 49 #[Slc.v x57,Slc.v r]) vw55 Slc.v fun (x58 : Slc) vw59=>
    Nn (some (⟨b,0,none⟩ : Addr)) fun a60=>
    Sh.St vw59 (a60.add 54) (Slc.v x58) fun vw61=>
    Ld vw61 (⟨mb,0,none⟩ : Addr) (Value.int .i64) fun (x62 : Int)=>
    Ld vw61 ((⟨mb,0,none⟩ : Addr).add 1) (Value.int .i64) fun (x63 : Int)=>
    Ld vw61 ((⟨mb,0,none⟩ : Addr).add 2) (Value.int .i64) fun (x64 : Int)=>
    Ld vw61 ((⟨mb,0,none⟩ : Addr).add 3) (Value.int .i64) fun (x65 : Int)=>
    Ld vw61 ((⟨mb,0,none⟩ : Addr).add 4) (Value.int .i64) fun (x66 : Int)=>
    Ld vw61 ((⟨mb,0,none⟩ : Addr).add 5) (Value.int .i64) fun (x67 : Int)=>
    Nn (some (⟨b,0,none⟩ : Addr)) fun a68=>
    Sh.St vw61 (a68.add 1) (.int .i64 x62) fun vw69=>
    Sh.St vw69 ((a68.add 1).add 1) (.int .i64 x63) fun vw70=>
    Sh.St vw70 ((a68.add 1).add 2) (.int .i64 x64) fun vw71=>
    Sh.St vw71 ((a68.add 1).add 3) (.int .i64 x65) fun vw72=>
    Sh.St vw72 ((a68.add 1).add 4) (.int .i64 x66) fun vw73=>
    Sh.St vw73 ((a68.add 1).add 5) (.int .i64 x67) fun vw74=>
    ∃ gs' gl' mt,showF g f m.text gl s = (0,gl',mt) /\ gl'.length <= 16384 /\ TS w0 vw74 b ⟨m.on,mt,m.line⟩ g x o ns gl' gs') fun v w1=> ∃ e,v = Sw.gup e /\ e ≠ 0 /\ (showF g f m.text gl s).1 = e /\ Ext (fun _=> False) w0 w1 := by
 have n1 := VRow.count glc_len (by decide) (Row.view T.row)
 have n2 := VRow.count glc_len (by decide) hv
 refine Nn.of (Ld.of T.blk (x := gs) rfl ?_)
 rw [n1,n2,i64_id (by omega)]
 refine (Sw.c_need _ _ _).mono (fun w55 h55=> ?_) fun v w55 h55=> ?_
 case refine_2=>
  obtain ⟨rfl,hk,rfl⟩ := h55
  rw [decide_eq_false_iff_not] at hk
  refine ⟨6,rfl,by decide,?_,T.ext⟩
  unfold showF
  rw [hF,if_neg (by simp),if_pos (by show 16384 < gl.length + L.length; omega)]
 obtain ⟨hk,rfl⟩ := h55
 rw [decide_eq_true_eq] at hk
 refine Nn.of (Ld.of T.blk (x := gs) rfl ?_)
 obtain ⟨s',w',hrun,hrow,hlen',hext,hown⟩ := elGl.app (ty := 49) T.row hv (fun v hv=> by
  obtain ⟨y,_,hx⟩ := List.mem_flatMap.1 hv
  exact glc_one y v hx) (by omega) (by omega)
 refine ⟨s',w',hrun,Nn.of ?_⟩
 have hbk := hext.blk T.blk fun hj=> by have := T.own b hj; omega
 have hbm := hext.blk hb fun hj=> hmg mb hj rfl
 have own2 : ∀ j,s'.own j -> b < j := fun j hj=> by
  rcases hown j hj with h1 | h1
  ·exact T.own j h1
  ·have := T.blk.lt
   omega
 have mlt := hb.lt
 have own3 : ∀ j,s'.own j -> j ≠ mb := fun j hj=> by
  rcases hown j hj with h1 | h1
  ·exact hmg j h1
  ·omega
 have E1 : Ext (fun _=> False) w0 w' := ext_new T.ext hext fun j hj=> by
  have := T.own j hj
  have := T.ge
  omega
 refine st_one (o := 54) hbk (by simp) fun w61 hb61 e61=> ?_
 have hb61 : Blk w61 b (tcl m g x o ns s').toArray TU := hb61
 have T61 : TS w0 w61 b m g x o ns (gl ++ L) s' := ⟨hb61,T.ge,ext_new E1 e61 fun j hj=> by rw [hj]; exact T.ge,(show Row w' s' _ 9 ((gl ++ L).flatMap glc) by rw [List.flatMap_append]; exact hrow).keep e61 fun j hj e=> by
  have := own2 j hj
  have e : j = b := e
  omega,own2⟩
 have hbm2 := e61.blk hbm fun e=> by
  have e : mb = b := e
  omega
 refine Ld.of hbm2 (x := m2.1) rfl (Ld.of hbm2 (x := m2.2.1) rfl (Ld.of hbm2 (x := m2.2.2.1) rfl (Ld.of hbm2 (x := m2.2.2.2.1) rfl (Ld.of hbm2 (x := m2.2.2.2.2.1) rfl (Ld.of hbm2 (x := m2.2.2.2.2.2) rfl ?_)))))
 refine Nn.of (T61.text m2 fun w74 T74 _=> ⟨s',gl ++ L,m2,?_,by rw [List.length_append]; omega,T74⟩)
 unfold showF
 rw [hF,if_neg (by simp),if_neg (by show ¬ 16384 < gl.length + L.length; omega)]
theorem c_tshow (T : TS w0 w b m g x o ns gl gs) (hT : TB w0) (h : FoV w0 x f) (hgl : gl.length <= 16384) {s : ByteArray} (hs : s.size <= 1048576) :
  C80 (some (⟨b,0,none⟩ : Addr)) s w (fun w1=> ∃ gs' gl' mt,showF g f m.text gl s = (0,gl',mt) /\ gl'.length <= 16384 /\ TS w0 w1 b ⟨m.on,mt,m.line⟩ g x o ns gl' gs')
   fun v w1=> ∃ e,v = Sw.gup e /\ e ≠ 0 /\ (showF g f m.text gl s).1 = e /\ Ext (fun _=> False) w0 w1 := by
 refine T80 _ _ _ _ _ ?_
 unfold S80
 have TD := T.keep (Ext.refl (fun _=> False) w).drew
 have cl : ∀ {j : Nat} {v : Value},(tcl m g x o ns gs)[j]? = some v -> w.drew.cell? ⟨b,j,none⟩ = some v := fun {j v} hj=> by
  rw [TD.blk.cell,List.getElem?_toArray]
  exact hj
 have no : ∀ {e : Int},e ≠ 0 -> stringF g m.text f s = ([],noM,e) -> (showF g f m.text gl s).1 = e := fun {e} he hF=> by
  unfold showF
  rw [hF,if_pos he]
 refine ⟨Ext (fun _=> False) w.drew,Ext.refl _ _,Nn.of ?_⟩
 refine LdST.blk (ts := LiA83) (pre := (tcl m g x o ns gs).take 13) (post := (tcl m g x o ns gs).drop 50) (t := TU) (x := hand g x) (fun w' hw=> hw.blk TD.blk id) rfl (Nn.of ?_)
 refine ldS_ext (x := m.text.1) (cl rfl) (ldS_ext (x := m.text.2.1) (cl rfl) (ldS_ext (x := m.text.2.2.1) (cl rfl) (ldS_ext (x := m.text.2.2.2.1) (cl rfl) (ldS_ext (x := m.text.2.2.2.2.1) (cl rfl) (ldS_ext (x := m.text.2.2.2.2.2) (cl rfl) ?_)))))
 refine ⟨?_,(Hn.start w.drew).nw fun w75 Q=> ⟨Q.ext,?_⟩⟩
 ·refine (c_text (g := g) (hT.keep TD.ext) (h.keep TD.ext) m.text hs).mono (fun r m2 w45 h45=> ?_) fun v w45 h45=> ?_
  ·obtain ⟨hask,e45,L,hsp,hv,ho⟩ := h45
   refine mk_mx w45 m2 fun w52 e52 hb52=> ?_
   have T2 := TD.keep (e45.tr e52)
   refine tshow_end T2 hgl (string_of hask hsp) (showP_most hask hsp) (hv.keep e52) hb52 ?_ fun j hj e=> ?_
   ·have h1 := TD.blk.lt
    have h2 := e45.size
    omega
   ·have h1 := TD.row.own_lt hj
    have h2 := e45.size
    omega
  ·obtain ⟨e,rfl,he,hF,e45⟩ := h45
   exact ⟨e,rfl,he,no he hF,TD.ext.tr e45⟩
 ·have TQ := TD.keep Q.ext
  refine (c_text (g := g) (hT.keep TQ.ext) (h.keep TQ.ext) m.text hs).mono (fun r m2 w78 h78=> ?_) fun v w78 h78=> ?_
  ·obtain ⟨hask,e78,L,hsp,hv,ho⟩ := h78
   have Q2 := Q.keep e78
   have hql := Q.lt 0 rfl
   refine st_mx (m := noM) (Q2.get 0 rfl) m2 fun w84 e84 hb84=> ?_
   have EE : Ext (fun _=> False) w.drew w84 := ext_new Q2.ext e84 fun j hj=> Nat.le_of_eq hj.symm
   have T2 := TD.keep EE
   refine tshow_end T2 hgl (string_of hask hsp) (showP_most hask hsp) (hv.keepF e84 fun j hj e=> ?_) hb84 TD.blk.lt fun j hj e=> ?_
   ·have h1 := ho j hj
    have e : j = w.drew.heap.size := e
    omega
   ·have h1 := TD.row.own_lt hj
    omega
  ·obtain ⟨e,rfl,he,hF,e78⟩ := h78
   exact ⟨e,rfl,he,no he hF,TQ.ext.tr e78⟩
end
end Ma
end Go.Proofs.YtcblpehnkogfdaaGreatDoor

/- Text machines: a turn shows an array. Conditions: sizes, the laid tables. -/
namespace Go.Proofs.YtcblpehnkogfdaaGreatDoor
namespace Ma
open Sh Mat Fix Fo Sw Opr Pat
set_option maxRecDepth 8000
set_option maxHeartbeats 4000000
theorem td3 (n : Int) : 1000 * Int.tdiv n 1000 + Int.tmod n 1000 = n /\ -1000 < Int.tmod n 1000 /\ Int.tmod n 1000 < 1000 /\ (0 <= n -> 0 <= Int.tmod n 1000) /\ (n <= 0 -> Int.tmod n 1000 <= 0) := by
 rcases Int.le_total 0 n with h | h
 ·rw [tdiv_id h,tmod_id h]; omega
 ·obtain ⟨m,rfl⟩ : ∃ m,n = -m := ⟨-n,by omega⟩
  rw [Int.neg_tdiv,Int.neg_tmod,tdiv_id (by omega),tmod_id (by omega)]; omega
theorem near3_eq {n : Int} (hn : -5000000000000000000 <= n /\ n <= 5000000000000000000) : (if Int.tmod n 1000 < 0 then (if Int.tmod n 1000 + 1000 >= 1000 - (Int.tmod n 1000 + 1000) then Int.tdiv n 1000 - 1 + 1 else Int.tdiv n 1000 - 1) else if Int.tmod n 1000 >= 1000 - Int.tmod n 1000 then Int.tdiv n 1000 + 1 else Int.tdiv n 1000) = near3 n := by
 unfold near3
 have := td3 n
 split
 ·split <;> omega
 ·split <;> omega
theorem c_near3 {n : Int} (hn : -5000000000000000000 <= n /\ n <= 5000000000000000000) (w : World) : C104 n 1000 w fun r w1=> r = near3 n /\ Ext (fun _=> False) w w1 := by
 refine T104 _ _ _ _ ?_
 unfold S104
 have he : Ext (fun _=> False) w w.drew := (Ext.refl _ w).drew
 have e := near3_eq hn
 have := td3 n
 refine ⟨by omega,by omega,Br.dec (fun h=> ?_) fun h=> ?_⟩
 ·rw [if_pos h] at e
  rw [i64_id (n := Int.tmod n 1000 + 1000) (by omega),i64_id (n := 1000 - (Int.tmod n 1000 + 1000)) (by omega),i64_id (n := Int.tdiv n 1000) (by omega),i64_id (n := Int.tdiv n 1000 - 1) (by omega),i64_id (n := Int.tdiv n 1000 - 1 + 1) (by omega)]
  refine Lt.of (Br.dec (fun h2=> ⟨?_,he⟩) fun h2=> ⟨?_,he⟩)
  ·rw [if_pos h2] at e; exact e
  ·rw [if_neg h2] at e; exact e
 ·rw [if_neg h] at e
  rw [i64_id (n := 1000 - Int.tmod n 1000) (by omega),i64_id (n := Int.tdiv n 1000) (by omega),i64_id (n := Int.tdiv n 1000 + 1) (by omega)]
  refine Br.dec (fun h2=> ⟨?_,he⟩) fun h2=> ⟨?_,he⟩
  ·rw [if_pos h2] at e; exact e
  ·rw [if_neg h2] at e; exact e
theorem c_Near3 {n : Int} (hn : -4611686018427387904 <= n /\ n <= 4611686018427387904) (w : World) : C100 n 1000 w fun r e w1=> r = near3 n /\ e = 0 /\ Ext (fun _=> False) w w1 := by
 refine T100 _ _ _ _ ?_
 unfold S100
 refine Br.f (by decide) (Br.dec (fun h=> absurd h (by omega)) fun _=> Br.dec (fun h=> absurd h (by omega)) fun _=> (c_near3 (by omega) w).mono ?_)
 rintro r w1 ⟨rfl,he⟩
 exact ⟨rfl,rfl,he⟩
theorem numV_in {o : Ob} {n : Int} (h : numV o = some n) : -1073741824 <= n /\ n <= 1073741824 := by
 unfold numV at h
 split at h
 ·split at h
  ·cases h; omega
  ·cases h
 ·split at h
  ·split at h
   ·rename_i h3
    cases h
    exact inW_spec.1 h3
   ·cases h
  ·cases h
theorem scaledP_in {g : GT} {n t : Int} (h : scaledP g n = some t) : inW t = true := by
 unfold scaledP at h
 split at h
 ·rename_i h1
  cases h
  exact h1
 ·cases h
theorem rowF_step {g : GT} {f : Font} {o : Ob} {K : List Ob} {text mt : Mx} {gl gl' : List GlT} (h : kidF g f text gl o = (0,gl',mt)) : rowF g f (o :: K) text gl = rowF g f K mt gl' := by
 conv=> lhs; unfold rowF
 rw [h,if_neg (by simp)]
theorem rowF_stop {g : GT} {f : Font} {o : Ob} {K : List Ob} {text : Mx} {gl : List GlT} {e : Int} (h : (kidF g f text gl o).1 = e) (he : e ≠ 0) : (rowF g f (o :: K) text gl).1 = e := by
 unfold rowF
 rw [h,if_pos he]
attribute [local irreducible] Ld Sh.St Nw Nn Lt LdS
section
variable {w0 w w' : World} {b : Nat} {m : Mc} {g : GT} {x : FT} {o : OpT} {ns gs ks : Slc} {gl : List GlT} {f : Font} {K : List Ob}
theorem c_tkids (T : TS w0 w b m g x o ns gl gs) (hT : TB w0) (h : FoV w0 x f) (hgl : gl.length <= 16384) (hK : OV w0 ks K) (hKl : K.length <= 9223372036854775807) (hok : K.all kidOk = true) (hks : ∀ k ∈ K,k.2.2.2.1.size <= 1048576) :
  Lp (σ := Int) (S81L1 (some (⟨b,0,none⟩ : Addr)) ks (fun w1=> ∃ gs' gl' mt,rowF g f K m.text gl = (0,gl',mt) /\ TS w0 w1 b ⟨m.on,mt,m.line⟩ g x o ns gl' gs') fun v w1=> ∃ e,v = Sw.gup e /\ e ≠ 0 /\ (rowF g f K m.text gl).1 = e /\ Ext (fun _=> False) w0 w1) 0 w := by
 refine ⟨fun n st w1=> ∃ (i : Nat) (gs' : Slc) (gl' : List GlT) (mt : Mx),st = (i : Int) /\ i <= K.length /\ n = K.length - i /\ rowF g f K m.text gl = rowF g f (K.drop i) mt gl' /\ gl'.length <= 16384 /\ TS w0 w1 b ⟨m.on,mt,m.line⟩ g x o ns gl' gs',K.length,⟨0,gs,gl,m.text,rfl,Nat.zero_le _,rfl,by rw [List.drop_zero],hgl,T⟩,?_⟩
 rintro n st w1 ⟨i,gs',gl',mt,rfl,hi,rfl,hrw,hgl',T⟩
 unfold S81L1
 rw [hK.1]
 refine Br.dec (fun q=> ⟨by omega,by omega,?_⟩) fun q=> ?_
 ·have hil : i < K.length := by omega
  have hdr : K.drop i = K[i] :: K.drop (i + 1) := List.drop_eq_getElem_cons hil
  rw [hrw,hdr]
  have hkk : kidOk K[i] = true := List.all_eq_true.1 hok _ (List.getElem_mem hil)
  have hsz := hks _ (List.getElem_mem hil)
  obtain ⟨a,ha,c0,c1,c2,c3,c4,c5⟩ := (hK.keep T.ext).get (List.getElem?_eq_getElem hil)
  rw [ha,Int.toNat_natCast]
  generalize hk : K[i] = k at *
  refine Nn.of (Ld.mk c0 (Ld.mk c1 (Ld.mk c2 (Ld.mk c3 (Ld.mk c4 (Ld.mk c5 ?_))))))
  have H := Hn.start w1
  refine H.nw fun w74 H=> ?_
  simp only [List.nil_append,List.cons_append,List.set_cons_zero,List.set_cons_succ,Nat.zero_add] at H
  iterate 6 (refine H.st 0 rfl (by simp) fun _ H=> ?_; simp only [List.nil_append,List.cons_append,List.set_cons_zero,List.set_cons_succ,Nat.zero_add] at H)
  have T := T.keep H.ext
  have hw : IntKind.i64.wrap ((i : Int) + 1) = ((i + 1 : Nat) : Int) := by rw [i64_id (by omega)]; rfl
  rw [hw]
  refine H.ld 0 rfl (x := k.1) rfl (Br.eq (fun q4=> ?_) fun q4=> ?_)
  ·refine H.ld 0 rfl (x := k.2.2.2.1) rfl ?_
   refine (c_tshow T hT h hgl' hsz).mono (fun w86 h86=> ?_) fun v w86 h86=> ?_
   ·obtain ⟨gs2,gl2,mt2,hF,hl2,T2⟩ := h86
    have hkf : kidF g f mt gl' k = (0,gl2,mt2) := by
     unfold kidF
     rw [if_pos q4]
     exact hF
    exact ⟨K.length - (i + 1),by omega,i + 1,gs2,gl2,mt2,rfl,by omega,rfl,rowF_step hkf,hl2,T2⟩
   ·obtain ⟨e,rfl,he,hF,e86⟩ := h86
    refine ⟨e,rfl,he,rowF_stop (by unfold kidF; rw [if_pos q4]; exact hF) he,e86⟩
  ·obtain ⟨nv,hnv⟩ : ∃ nv,numV k = some nv := by
    unfold kidOk at hkk
    rw [decide_eq_false q4,Bool.or_false] at hkk
    exact Option.isSome_iff_exists.1 hkk
   have hin := numV_in hnv
   have hkf : kidF g f mt gl' k = match backF g mt nv with
     | some m=> (0,gl',m)
     | none=> (2,gl',mt) := by
    unfold kidF
    rw [if_neg q4,hnv]
    rfl
   have bad : ∀ w2,backF g mt nv = none -> Ext (fun _=> False) w0 w2 -> ∃ e,Sw.gup 2 = Sw.gup e /\ e ≠ 0 /\ (rowF g f (k :: K.drop (i + 1)) mt gl').1 = e /\ Ext (fun _=> False) w0 w2 := fun w2 hb e2=>
    ⟨2,rfl,by decide,rowF_stop (by rw [hkf,hb]) (by decide),e2⟩
   refine Nn.of (LdT.blk (ts := LiA30) (pre := (tcl ⟨m.on,mt,m.line⟩ g x o ns gs').take 13) (post := (tcl ⟨m.on,mt,m.line⟩ g x o ns gs').drop 43) (t := TU) (x := g) T.blk rfl ?_)
   refine (c_use g _).mono (fun w89 h89=> ?_) fun v w89 h89=> ?_
   case refine_2=>
    obtain ⟨rfl,hg,e89⟩ := h89
    exact bad _ (by unfold backF; rw [if_neg (by rw [hg]; decide)]) (T.ext.tr e89)
   obtain ⟨hg,e89⟩ := h89
   obtain ⟨g1,g2,g3,g4,g5,g6⟩ := useG_in hg
   have H := H.keep e89
   have T := T.keep e89
   have hbk : backF g mt nv = (mulO (near3 nv) (tsize g)).bind fun w=> (scaledP g w).bind fun t=> mulP (moveM (-t) 0) mt := by unfold backF; rw [if_pos hg]
   iterate 6 refine H.ld 0 rfl rfl ?_
   refine (Mat.c_number k _).mono ?_
   rintro r96 r97 w98 ⟨h98,e98⟩
   rw [hnv] at h98
   obtain ⟨rfl,rfl⟩ := Prod.mk.inj h98
   have T := (T.keep e98).keep (Ext.refl (fun _=> False) w98).drew
   have cl : ∀ {j : Nat} {v : Value},(tcl ⟨m.on,mt,m.line⟩ g x o ns gs')[j]? = some v -> w98.drew.cell? ⟨b,j,none⟩ = some v := fun {j v} hj=> by
    rw [T.blk.cell,List.getElem?_toArray]
    exact hj
   refine ⟨Ext (fun _=> False) w98.drew,Ext.refl _ _,Nn.of (ldS_ext (x := tsize g) (cl rfl) ?_)⟩
   refine (c_Near3 (n := r96) (by omega) _).mono ?_
   rintro r e w104 ⟨rfl,rfl,e104⟩
   refine ⟨e104,(Sw.c_mustI _ 0 _).mono (fun r w3 h3=> ?_) fun v w3 h3=> absurd rfl h3.2.1⟩
   obtain ⟨rfl,_,rfl⟩ := h3
   refine ⟨e104,(c_mul2 _ _ _).mono ?_⟩
   rintro r e w109 ⟨hr,e109⟩
   have T := T.keep (e104.tr e109)
   refine (Sw.c_mustI _ _ _).mono (fun r2 w3 h3=> ?_) fun v w3 h3=> ?_
   case refine_2=>
    obtain ⟨hn,rfl⟩ := resI_no hr h3.2.1
    rw [h3.1,h3.2.2]
    exact bad _ (by rw [hbk,hn]; rfl) T.ext
   obtain ⟨rfl,rfl,rfl⟩ := h3
   have hmu := resI_yes hr
   have T := T.keep (Ext.refl (fun _=> False) _).drew
   have cl : ∀ {j : Nat} {v : Value},(tcl ⟨m.on,mt,m.line⟩ g x o ns gs')[j]? = some v -> w3.drew.cell? ⟨b,j,none⟩ = some v := fun {j v} hj=> by
    rw [T.blk.cell,List.getElem?_toArray]
    exact hj
   refine ⟨Ext (fun _=> False) w3.drew,Ext.refl _ _,Nn.of ?_⟩
   refine LdST.blk (ts := LiA83) (pre := (tcl ⟨m.on,mt,m.line⟩ g x o ns gs').take 13) (post := (tcl ⟨m.on,mt,m.line⟩ g x o ns gs').drop 50) (t := TU) (x := hand g x) (fun w' hw=> hw.blk T.blk id) rfl (Nn.of ?_)
   refine ldS_ext (x := mt.1) (cl rfl) (ldS_ext (x := mt.2.1) (cl rfl) (ldS_ext (x := mt.2.2.1) (cl rfl) (ldS_ext (x := mt.2.2.2.1) (cl rfl) (ldS_ext (x := mt.2.2.2.2.1) (cl rfl) (ldS_ext (x := mt.2.2.2.2.2) (cl rfl) ?_)))))
   refine (c_scaled x (mulO_in hmu) g4 _).mono (fun t w123 h123=> ?_) fun v w123 h123=> ?_
   case refine_2=>
    obtain ⟨rfl,hn,e123⟩ := h123
    exact bad _ (by rw [hbk,hmu]; show Option.bind (scaledP g r2) _ = _; rw [hn]; rfl) (T.ext.tr e123)
   obtain ⟨hsc,e123⟩ := h123
   have hti := inW_spec.1 (scaledP_in hsc)
   rw [i64_id (n := 0 - t) (by omega),Int.zero_sub]
   refine ⟨e123,(c_fits (-t) _).mono (fun r w3 h3=> ?_) fun v w3 h3=> ?_⟩
   case refine_2=>
    have := inW_no.1 h3.2.1
    omega
   obtain ⟨rfl,_,rfl⟩ := h3
   refine ⟨e123,(c_move (-t) 0 _).mono ?_⟩
   rintro mv w127 ⟨rfl,e127⟩
   refine ⟨e123.tr e127,(Mat.c_mul (moveM (-t) 0) mt _).mono ?_⟩
   rintro nx e w130 ⟨hnx,e130⟩
   have hb2 : backF g mt r96 = mulP (moveM (-t) 0) mt := by
    rw [hbk,hmu]
    show Option.bind (scaledP g r2) _ = _
    rw [hsc]
    rfl
   have T := T.keep ((e123.tr e127).tr e130)
   refine (Sw.c_mustM nx e _).mono (fun r w132 h132=> ?_) fun v w132 h132=> ?_
   case refine_2=>
    obtain ⟨hn,rfl⟩ := resM_no hnx h132.2.1
    rw [h132.1]
    exact bad _ (by rw [hb2]; exact hn) (T.ext.tr h132.2.2)
   obtain ⟨rfl,rfl,e132⟩ := h132
   have hnx := resM_yes hnx
   refine Nn.of ((T.keep e132).text r fun w139 T2 _=> ?_)
   exact ⟨K.length - (i + 1),by omega,i + 1,gs',gl',r,rfl,by omega,rfl,rowF_step (by rw [hkf,hb2,hnx]),hgl',T2⟩
 ·have : i = K.length := by omega
  subst this
  rw [List.drop_length] at hrw
  exact ⟨gs',gl',mt,hrw,T⟩
end
end Ma
end Go.Proofs.YtcblpehnkogfdaaGreatDoor
namespace Go.Proofs.YtcblpehnkogfdaaGreatDoor
namespace Ma
open Sh Mat Fix Fo Sw Opr Pat
set_option maxRecDepth 8000
set_option maxHeartbeats 4000000
theorem BrN {a b : ByteArray} {A B : Prop} (h1 : Opr.bl a = Opr.bl b -> A) (h2 : ¬ Opr.bl a = Opr.bl b -> B) : Br (a.toList == b.toList) A B := by rw [eqB]; exact Br.dec h1 h2
theorem tcl_spaced (m : Mc) (g : GT) (x : FT) (o : OpT) (ns gs : Slc) (a b : Int) : ((tcl m g x o ns gs).set 36 (.int .i64 a)).set 35 (.int .i64 b) = tcl m (spaced g a b) x o ns gs := by
 simp only [tcl,spaced,tx,List.set]
theorem num_len {nm d : Opr.By} {L : List Ob} (h : Opr.chkF nm L d = 0) (hten : nm ∈ ten) : (L.filter isNum).length = (takes nm).countP (fun b=> decide (b = 110)) := by
 have hm : L.map isNum = (takes nm).map fun b=> decide (b = 110) := by
  apply List.ext_getElem?
  intro i
  by_cases hi : i < L.length
  ·obtain ⟨b,hb,hn⟩ := letter_num h hten hi
   rw [List.getElem?_map,List.getElem?_map,hb,List.getElem?_eq_getElem hi]
   simp [hn]
  ·have := (chk_parts h).1
   rw [List.getElem?_eq_none (by rw [List.length_map]; omega),List.getElem?_eq_none (by rw [List.length_map]; omega)]
 rw [<- List.countP_eq_length_filter]
 have h1 : (L.map isNum).countP id = L.countP isNum := by rw [List.countP_map]; rfl
 have h2 : ((takes nm).map fun b=> decide (b = 110)).countP id = (takes nm).countP fun b=> decide (b = 110) := by rw [List.countP_map]; rfl
 rw [<- h1,hm,h2]
attribute [local irreducible] Ld Sh.St Nw Nn Lt LdS
section
variable {w0 w w' : World} {b : Nat} {m : Mc} {g : GT} {x : FT} {o : OpT} {ns gs : Slc} {gl : List GlT} {f : Font} {L K : List Ob}
theorem c_trow (T : TS w0 w b m g x o ns gl gs) (hT : TB w0) (h : FoV w0 x f) (hgl : gl.length <= 16384) (hL : OV w0 o.2.1 L) (hL0 : 0 < L.length) (hK : OV w0 (arg L 0).2.2.2.2.2 K) (hKl : K.length <= 9223372036854775807) (hks : ∀ k ∈ K,k.2.2.2.1.size <= 1048576) :
  C81 (some (⟨b,0,none⟩ : Addr)) w (fun w1=> K.all kidOk = true /\ ∃ gs' gl' mt,rowF g f K m.text gl = (0,gl',mt) /\ TS w0 w1 b ⟨m.on,mt,m.line⟩ g x o ns gl' gs')
   fun v w1=> ∃ e,v = Sw.gup e /\ e ≠ 0 /\ (if K.all kidOk = false then 28 else (rowF g f K m.text gl).1) = e /\ Ext (fun _=> False) w0 w1 := by
 refine T81 _ _ _ _ ?_
 unfold S81
 refine Nn.of (Ld.of T.blk (x := o.2.1) rfl ?_)
 have hLw := hL.keep T.ext
 obtain ⟨a,ha,_,_,_,_,_,c5⟩ := hLw.get (i := 0) (List.getElem?_eq_getElem hL0)
 rw [hLw.1,ha]
 have harg : arg L 0 = L[0] := by unfold arg; rw [List.getD_eq_getElem?_getD,List.getElem?_eq_getElem hL0]; rfl
 rw [harg] at hK
 refine ⟨by decide,by omega,Nn.of (Ld.mk (x := L[0].2.2.2.2.2) c5 ?_)⟩
 refine ⟨fun n st w1=> ∃ i : Nat,st = (i : Int) /\ i <= K.length /\ n = K.length - i /\ TS w0 w1 b m g x o ns gl gs /\ ∀ j (hj : j < K.length),j < i -> kidOk K[j] = true,K.length,⟨0,rfl,Nat.zero_le _,rfl,T,fun j hj h=> by omega⟩,?_⟩
 rintro n st w1 ⟨i,rfl,hi,rfl,T,hall⟩
 unfold S81L2
 rw [hK.1]
 refine Br.dec (fun q=> ⟨by omega,by omega,?_⟩) fun q=> ?_
 ·have hil : i < K.length := by omega
  obtain ⟨a,ha,c0,c1,c2,c3,c4,c5⟩ := (hK.keep T.ext).get (List.getElem?_eq_getElem hil)
  rw [ha,Int.toNat_natCast]
  have hw : IntKind.i64.wrap ((i : Int) + 1) = ((i + 1 : Nat) : Int) := by rw [i64_id (by omega)]; rfl
  rw [hw]
  refine Nn.of (Ld.mk c0 (Ld.mk c1 (Ld.mk c2 (Ld.mk c3 (Ld.mk c4 (Ld.mk c5 ?_))))))
  have H := Hn.start w1
  refine H.nw fun w45 H=> ?_
  simp only [List.nil_append,List.cons_append,List.set_cons_zero,List.set_cons_succ,Nat.zero_add] at H
  iterate 6 (refine H.st 0 rfl (by simp) fun _ H=> ?_; simp only [List.nil_append,List.cons_append,List.set_cons_zero,List.set_cons_succ,Nat.zero_add] at H)
  have T := T.keep H.ext
  iterate 6 refine H.ld 0 rfl rfl ?_
  have next : ∀ w2,TS w0 w2 b m g x o ns gl gs -> kidOk K[i] = true -> ∃ m',m' < K.length - i /\ ∃ i' : Nat,((i + 1 : Nat) : Int) = (i' : Int) /\ i' <= K.length /\ m' = K.length - i' /\ TS w0 w2 b m g x o ns gl gs /\ ∀ j (hj : j < K.length),j < i' -> kidOk K[j] = true := fun w2 T2 hk=>
   ⟨K.length - (i + 1),by omega,i + 1,rfl,by omega,rfl,T2,fun j hj hji=> by
    by_cases e : j = i
    ·subst e; exact hk
    ·exact hall j hj (by omega)⟩
  refine (Mat.c_number K[i] _).mono ?_
  rintro r58 r59 w60 ⟨h60,e60⟩
  have T := T.keep e60
  cases hnv : numV K[i] with
  | some nv=>
   rw [hnv] at h60
   obtain ⟨rfl,rfl⟩ := Prod.mk.inj h60
   refine Sh.Br.t rfl ((Sw.c_need _ _ _).mono (fun w61 h61=> ?_) fun v w61 h61=> by cases h61.2.1)
   obtain ⟨_,rfl⟩ := h61
   exact next _ T (by unfold kidOk; rw [hnv]; rfl)
  | none=>
   rw [hnv] at h60
   obtain ⟨rfl,rfl⟩ := Prod.mk.inj h60
   refine Sh.Br.f rfl ((H.keep e60).ld 0 rfl (x := K[i].1) rfl ?_)
   refine (Sw.c_need _ _ _).mono (fun w61 h61=> ?_) fun v w61 h61=> ?_
   ·obtain ⟨h4,rfl⟩ := h61
    exact next _ T (by unfold kidOk; rw [hnv]; simpa using h4)
   ·obtain ⟨rfl,h4,rfl⟩ := h61
    refine ⟨28,rfl,by decide,if_pos ?_,T.ext⟩
    cases hk : K.all kidOk with
    | false=> rfl
    | true=>
     have := List.all_eq_true.1 hk _ (List.getElem_mem hil)
     unfold kidOk at this
     rw [hnv] at this
     have h4 : ¬ K[i].1 = 4 := by simpa using h4
     simp [h4] at this
 ·have hok : K.all kidOk = true := List.all_eq_true.2 fun k hk=> by
   obtain ⟨j,hj,rfl⟩ := List.mem_iff_getElem.1 hk
   exact hall j hj (by omega)
  have hloop := c_tkids T hT h hgl hK hKl hok hks
  rw [if_neg (by rw [hok]; decide)]
  have e2 : (fun w1=> K.all kidOk = true /\ ∃ gs' gl' mt,rowF g f K m.text gl = (0,gl',mt) /\ TS w0 w1 b ⟨m.on,mt,m.line⟩ g x o ns gl' gs') = fun w1=> ∃ gs' gl' mt,rowF g f K m.text gl = (0,gl',mt) /\ TS w0 w1 b ⟨m.on,mt,m.line⟩ g x o ns gl' gs' := by
   funext w1
   rw [hok]
   simp
  rw [e2]
  exact hloop
end
end Ma
end Go.Proofs.YtcblpehnkogfdaaGreatDoor

/- Text machines: a turn's operator, each. Conditions: sizes, the laid tables. -/
namespace Go.Proofs.YtcblpehnkogfdaaGreatDoor
namespace Ma
open Sh Mat Fix Fo Sw Opr Pat
set_option maxRecDepth 8000
set_option maxHeartbeats 4000000
def mct (m : Mc) : TyA38 := (m.on,m.text.1,m.text.2.1,m.text.2.2.1,m.text.2.2.2.1,m.text.2.2.2.2.1,m.text.2.2.2.2.2,m.line.1,m.line.2.1,m.line.2.2.1,m.line.2.2.2.1,m.line.2.2.2.2.1,m.line.2.2.2.2.2)
attribute [local irreducible] Ld Sh.St Nw Nn Lt LdS
section
variable {w0 w w' : World} {b : Nat} {m : Mc} {g : GT} {x : FT} {o : OpT} {ns gs : Slc} {gl : List GlT} {f : Font} {L K : List Ob}
theorem TS.mach (T : TS w0 w b m g x o ns gl gs) (m' : Mc) {K : World -> Prop} (k : ∀ w2,TS w0 w2 b m' g x o ns gl gs -> K w2) : StT (⟨b,0,none⟩ : Addr) 0 LiA38 (mct m') w K :=
 StT.blk (ts := LiA38) (x := mct m') (pre := []) (zs := mcc m) (post := (tcl m g x o ns gs).drop 13) T.blk rfl rfl fun w2 hb e=> k w2 (T.upd (m' := m') hb e)
theorem c_tdo (T : TS w0 w b m g x o ns [] gs) (hT : TB w0) (h : FoV w0 x f) {n : List Int} (hn : IV w0 ns n) {nm d : Opr.By} (hnm : Opr.bl o.1 = nm) (hchk : Opr.chkF nm L d = 0) (hten : nm ∈ ten) (hnl : n.length = (takes nm).countP (fun b=> decide (b = 110)))
  (hL : OV w0 o.2.1 L) (hK : 0 < L.length -> OV w0 (arg L 0).2.2.2.2.2 K) (hKl : K.length <= 9223372036854775807) (hLs : ∀ k ∈ L,k.2.2.2.1.size <= 1048576) (hks : ∀ k ∈ K,k.2.2.2.1.size <= 1048576) :
  C44 (some (⟨b,0,none⟩ : Addr)) w (fun w1=> ∃ mc gl gs g',actF g f m nm L K n = (0,mc,gl) /\ TS w0 w1 b mc g' x o ns gl gs)
   fun v w1=> ∃ e,v = Sw.gup e /\ e ≠ 0 /\ (actF g f m nm L K n).1 = e /\ Ext (fun _=> False) w0 w1 := by
 refine T44 _ _ _ _ ?_
 unfold S44
 refine Nn.of (Ld.of T.blk (x := o.1) rfl ?_)
 have hlen := (chk_parts hchk).1
 refine BrN (fun q=> ?_) fun q1=> ?_
 ·rw [hnm] at q
  subst q
  refine (Mat.c_one _).mono ?_
  rintro r4 w5 ⟨rfl,e5⟩
  refine (Mat.c_one _).mono ?_
  rintro r6 w7 ⟨rfl,e7⟩
  refine Nn.of ((T.keep (e5.tr e7)).mach ⟨true,one,one⟩ fun w9 T9=> ⟨_,_,_,_,?_,T9⟩)
  unfold actF
  rw [if_pos rfl]
 rw [hnm] at q1
 have q1 : ¬ nm = [66,84] := q1
 refine BrN (fun q=> ?_) fun q2=> ?_
 ·rw [hnm] at q
  have q : nm = [69,84] := q
  refine (c_new _).mono ?_
  rintro r10 w11 ⟨b2,rfl,hge,hb2,e11⟩
  refine Nn.of (LdT.blk (ts := LiA38) (pre := []) (post := []) (t := TK) (x := mct m0) hb2 rfl (Nn.of ?_))
  refine (T.keep e11).mach m0 fun w15 T15=> ⟨_,_,_,_,?_,T15⟩
  unfold actF
  rw [if_neg q1,if_pos q]
 rw [hnm] at q2
 have q2 : ¬ nm = [69,84] := q2
 refine ⟨fun s w'=> w' = w /\ s = decide (nm = [84,100] \/ nm = [84,68]),?_,?_⟩
 rotate_left
 ·rw [eqB,eqB,hnm]
  refine Br.dec (fun q=> ⟨rfl,?_⟩) fun q=> ⟨rfl,?_⟩
  ·have q : nm = [84,100] := q
   simp [q,show Opr.bl ⟨#[84,100]⟩ = [84,100] from rfl]
  ·have q : ¬ nm = [84,100] := q
   simp [q,show Opr.bl ⟨#[84,68]⟩ = [84,68] from rfl]
 rintro _ _ ⟨rfl,rfl⟩
 rename_i w
 unfold S44J1
 -- the words of the operator
 have wordsE : ∀ {w1 : World} {i : Nat} (hi : i < L.length),Ext (fun _=> False) w0 w1 -> ∃ a,o.2.1.p = some a /\ w1.cell? ((a.add (i * 6)).add 3) = some (.string (arg L i).2.2.2.1) := fun {w1 i} hi e=> by
  obtain ⟨a,ha,_,_,_,c3,_,_⟩ := (hL.keep e).get (List.getElem?_eq_getElem hi)
  refine ⟨a,ha,?_⟩
  have : arg L i = L[i] := by unfold arg; rw [List.getD_eq_getElem?_getD,List.getElem?_eq_getElem hi]; rfl
  rw [this]
  exact c3
 have argS : ∀ {i : Nat} (hi : i < L.length),(arg L i).2.2.2.1.size <= 1048576 := fun {i} hi=> by
  have : arg L i = L[i] := by unfold arg; rw [List.getD_eq_getElem?_getD,List.getElem?_eq_getElem hi]; rfl
  rw [this]
  exact hLs _ (List.getElem_mem hi)
 refine Br.dec (fun q=> ?_) fun q3=> ?_
 ·have hl2 : n.length = 2 := by
   rw [hnl]
   rcases q with q | q <;> rw [q] <;> decide +kernel
  have TD := T.keep (Ext.refl (fun _=> False) _).drew
  have hv := hn.keep TD.ext
  obtain ⟨a,ha,c0⟩ := hv.get (i := 0) (by omega)
  obtain ⟨a',ha',c1⟩ := hv.get (i := 1) (by omega)
  rw [ha] at ha'
  cases ha'
  refine Nn.of (Ld.of TD.blk (x := ns) rfl ?_)
  rw [hv.1,hl2,ha]
  refine ⟨by decide,by decide,Nn.of (Ld.mk (x := n.getD 0 0) c0 (Nn.of (Ld.of TD.blk (x := ns) rfl ?_)))⟩
  rw [hv.1,hl2,ha]
  refine ⟨by decide,by decide,Nn.of (Ld.mk (x := n.getD 1 0) c1 ?_)⟩
  have hact : actF g f m nm L K n = movedF m (moveF m.line (n.getD 0 0) (n.getD 1 0)) := by
   unfold actF
   rw [if_neg q1,if_neg q2,if_pos q]
  rw [hact]
  refine (c_tmove TD _ _).mono (fun w1 h1=> ?_) fun v w1 h1=> ?_
  ·obtain ⟨l,hl,T1⟩ := h1
   exact ⟨_,_,_,_,by rw [hl]; rfl,T1⟩
  ·exact ⟨2,h1.1,by decide,by rw [h1.2.1]; rfl,h1.2.2⟩
 refine BrN (fun q=> ?_) fun q4=> ?_
 ·rw [hnm] at q
  have hact : actF g f m nm L K n = movedF m (nextF g m.line) := by
   unfold actF
   rw [if_neg q1,if_neg q2,if_neg q3,if_pos q]
  rw [hact]
  refine (c_tnext T).mono (fun w1 h1=> ?_) fun v w1 h1=> ?_
  ·obtain ⟨l,hl,T1⟩ := h1
   exact ⟨_,_,_,_,by rw [hl]; rfl,T1⟩
  ·exact ⟨2,h1.1,by decide,by rw [h1.2.1]; rfl,h1.2.2⟩
 rw [hnm] at q4
 refine BrN (fun q=> ?_) fun q5=> ?_
 ·rw [hnm] at q
  have q : nm = [84,109] := q
  have h6 : n.length = 6 := by
   rw [hnl,q]
   decide +kernel
  have hact : actF g f m nm L K n = movedF m (if Mat.okM (six n) = true then some (six n) else none) := by
   unfold actF
   rw [if_neg q1,if_neg q2,if_neg q3,if_neg q4,if_pos q]
   rfl
  rw [hact]
  refine (c_tset T hn h6).mono (fun w1 h1=> ?_) fun v w1 h1=> ?_
  ·exact ⟨_,_,_,_,by rw [if_pos h1.1]; rfl,h1.2⟩
  ·exact ⟨2,h1.1,by decide,by rw [if_neg (by rw [h1.2.1]; decide)]; rfl,h1.2.2⟩
 rw [hnm] at q5
 refine BrN (fun q=> ?_) fun q6=> ?_
 ·rw [hnm] at q
  have q : nm = [84,106] := q
  have hl1 : L.length = 1 := by
   rw [<- hlen,q]
   decide +kernel
  obtain ⟨a,ha,c3⟩ := wordsE (i := 0) (by omega) T.ext
  refine Nn.of (Ld.of T.blk (x := o.2.1) rfl ?_)
  rw [hL.1,ha]
  refine ⟨by decide,by omega,Nn.of (Ld.mk (x := (arg L 0).2.2.2.1) c3 ?_)⟩
  have hact : actF g f m nm L K n = shownF g f m (arg L 0).2.2.2.1 := by
   unfold actF
   rw [if_neg q1,if_neg q2,if_neg q3,if_neg q4,if_neg q5,if_pos q]
  rw [hact]
  refine (c_tshow T hT h (by decide) (argS (i := 0) (by omega))).mono (fun w1 h1=> ?_) fun v w1 h1=> ?_
  ·obtain ⟨gs',gl',mt,hF,hl',T1⟩ := h1
   exact ⟨_,_,_,_,by unfold shownF; rw [hF],T1⟩
  ·obtain ⟨e,rfl,he,hF,e1⟩ := h1
   exact ⟨e,rfl,he,hF,e1⟩
 rw [hnm] at q6
 -- a string on the next line
 have lined : ∀ {w1 : World} {g' : GT} (i : Nat) (hi : i < L.length),TS w0 w1 b m g' x o ns [] gs -> actF g f m nm L K n = linedF g' f m (arg L i).2.2.2.1 ->
   C78 (some (⟨b,0,none⟩ : Addr)) w1 (fun vw34=>
       Nn (some (⟨b,0,none⟩ : Addr)) fun a35=>
       Ld vw34 ((a35.add 50).add 1) Slc.v fun (x36 : Slc)=>
       0 <= (i : Int) /\ (i : Int) < (x36.len : Nat) /\ Nn x36.p fun a37=>
       Ld vw34 ((a37.add (i * 6)).add 3) Value.string fun (x38 : ByteArray)=>
       C80 (some (⟨b,0,none⟩ : Addr)) x38 vw34 (fun w1=> ∃ mc gl gs g',actF g f m nm L K n = (0,mc,gl) /\ TS w0 w1 b mc g' x o ns gl gs)
        fun v w1=> ∃ e,v = Sw.gup e /\ e ≠ 0 /\ (actF g f m nm L K n).1 = e /\ Ext (fun _=> False) w0 w1)
    fun v w1=> ∃ e,v = Sw.gup e /\ e ≠ 0 /\ (actF g f m nm L K n).1 = e /\ Ext (fun _=> False) w0 w1 := fun {w1 g'} i hi T1 hact=> by
  rw [hact]
  refine (c_tnext T1).mono (fun w34 h34=> ?_) fun v w34 h34=> ?_
  ·obtain ⟨l,hl,T2⟩ := h34
   obtain ⟨a,ha,c3⟩ := wordsE (i := i) hi T2.ext
   refine Nn.of (Ld.of T2.blk (x := o.2.1) rfl ?_)
   rw [hL.1,ha]
   refine ⟨by omega,by omega,Nn.of (Ld.mk (x := (arg L i).2.2.2.1) c3 ?_)⟩
   have hlf : linedF g' f m (arg L i).2.2.2.1 = shownF g' f ⟨m.on,l,l⟩ (arg L i).2.2.2.1 := by
    unfold linedF
    rw [hl]
   rw [hlf]
   refine (c_tshow T2 hT h (by decide) (argS (i := i) hi)).mono (fun w1 h1=> ?_) fun v w1 h1=> ?_
   ·obtain ⟨gs',gl',mt,hF,hl',T1⟩ := h1
    exact ⟨_,_,_,_,by unfold shownF; rw [hF],T1⟩
   ·obtain ⟨e,rfl,he,hF,e1⟩ := h1
    exact ⟨e,rfl,he,hF,e1⟩
  ·exact ⟨2,h34.1,by decide,by unfold linedF; rw [h34.2.1],h34.2.2⟩
 refine BrN (fun q=> ?_) fun q7=> ?_
 ·rw [hnm] at q
  have q : nm = [39] := q
  have hl1 : L.length = 1 := by
   rw [<- hlen,q]
   decide +kernel
  exact lined 0 (by omega) T (by
   unfold actF
   rw [if_neg q1,if_neg q2,if_neg q3,if_neg q4,if_neg q5,if_neg q6,if_pos q])
 rw [hnm] at q7
 refine BrN (fun q=> ?_) fun q8=> ?_
 ·rw [hnm] at q
  have q : nm = [34] := q
  have hl3 : L.length = 3 := by
   rw [<- hlen,q]
   decide +kernel
  have hl2 : n.length = 2 := by
   rw [hnl,q]
   decide +kernel
  have TD := T.keep (Ext.refl (fun _=> False) _).drew
  have hv := hn.keep TD.ext
  obtain ⟨a,ha,c0⟩ := hv.get (i := 0) (by omega)
  obtain ⟨a',ha',c1⟩ := hv.get (i := 1) (by omega)
  rw [ha] at ha'
  cases ha'
  have cl : ∀ {j : Nat} {v : Value},(tcl m g x o ns gs)[j]? = some v -> w.drew.cell? ⟨b,j,none⟩ = some v := fun {j v} hj=> by
   rw [TD.blk.cell,List.getElem?_toArray]
   exact hj
  refine ⟨Ext (fun _=> False) w.drew,Ext.refl _ _,Nn.of (ldS_ext (x := ns) (cl rfl) ?_)⟩
  rw [hv.1,hl2,ha]
  refine ⟨by decide,by decide,Nn.of (ldS_ext (x := n.getD 0 0) c0 (Nn.of (ldS_ext (x := ns) (cl rfl) ?_)))⟩
  rw [hv.1,hl2,ha]
  refine ⟨by decide,by decide,Nn.of (ldS_ext (x := n.getD 1 0) c1 (Nn.of ?_))⟩
  refine st_one (o := 36) TD.blk (by simp) fun w50 hb50 e50=> Nn.of (st_one (o := 35) hb50 (by simp) fun w52 hb52 e52=> ?_)
  rw [tcl_spaced] at hb52
  exact lined (g' := spaced g (n.getD 0 0) (n.getD 1 0)) 2 (by omega) (TD.upd (m' := m) hb52 (e50.tr e52)) (by
   unfold actF
   rw [if_neg q1,if_neg q2,if_neg q3,if_neg q4,if_neg q5,if_neg q6,if_neg q7,if_pos q])
 rw [hnm] at q8
 refine BrN (fun q=> ?_) fun q9=> ?_
 ·rw [hnm] at q
  have q : nm = [84,74] := q
  have hl1 : L.length = 1 := by
   rw [<- hlen,q]
   decide +kernel
  have hact : actF g f m nm L K n = if K.all kidOk = false then (28,m,[]) else ((rowF g f K m.text []).1,{ m with text := (rowF g f K m.text []).2.2 },(rowF g f K m.text []).2.1) := by
   unfold actF
   rw [if_neg q1,if_neg q2,if_neg q3,if_neg q4,if_neg q5,if_neg q6,if_neg q7,if_neg q8]
  rw [hact]
  refine (c_trow T hT h (by decide) hL (by omega) (hK (by omega)) hKl hks).mono (fun w1 h1=> ?_) fun v w1 h1=> ?_
  ·obtain ⟨hok,gs',gl',mt,hF,T1⟩ := h1
   exact ⟨_,_,_,_,by rw [if_neg (by rw [hok]; decide),hF],T1⟩
  ·obtain ⟨e,rfl,he,hF,e1⟩ := h1
   refine ⟨e,rfl,he,?_,e1⟩
   rw [<- hF]
   split <;> rfl
 ·exfalso
  rw [hnm] at q9
  unfold ten at hten
  simp only [List.mem_cons,List.not_mem_nil,or_false] at hten
  rcases hten with r | r | r | r | r | r | r | r | r | r
  ·exact q1 r
  ·exact q2 r
  ·exact q3 (.inl r)
  ·exact q3 (.inr r)
  ·exact q4 r
  ·exact q5 r
  ·exact q6 r
  ·exact q7 r
  ·exact q8 r
  ·exact q9 r
end
end Ma
end Go.Proofs.YtcblpehnkogfdaaGreatDoor
namespace Go.Proofs.YtcblpehnkogfdaaGreatDoor
namespace Ma
open Sh Mat Fix Fo Sw Opr Pat
set_option maxRecDepth 8000
set_option maxHeartbeats 4000000
attribute [local irreducible] Ld Sh.St Nw Nn Lt LdS
def grl (g : GT) : List Value := [.int .i64 (g.1),.int .i64 (g.2.1),.int .i64 (g.2.2.1),.int .i64 (g.2.2.2.1),.int .i64 (g.2.2.2.2.1),.int .i64 (g.2.2.2.2.2.1),.int .i64 (g.2.2.2.2.2.2.1),.int .i64 (g.2.2.2.2.2.2.2.1),.int .i64 (g.2.2.2.2.2.2.2.2.1),.int .i64 (g.2.2.2.2.2.2.2.2.2.1),Slc.v (g.2.2.2.2.2.2.2.2.2.2.1),.int .i64 (g.2.2.2.2.2.2.2.2.2.2.2.1),.int .i64 (g.2.2.2.2.2.2.2.2.2.2.2.2.1),.int .i64 (g.2.2.2.2.2.2.2.2.2.2.2.2.2.1),.int .i64 (g.2.2.2.2.2.2.2.2.2.2.2.2.2.2.1),.int .i64 (g.2.2.2.2.2.2.2.2.2.2.2.2.2.2.2.1),.int .i64 (g.2.2.2.2.2.2.2.2.2.2.2.2.2.2.2.2.1),.int .i64 (g.2.2.2.2.2.2.2.2.2.2.2.2.2.2.2.2.2.1),.int .i64 (g.2.2.2.2.2.2.2.2.2.2.2.2.2.2.2.2.2.2.1),.int .i64 (g.2.2.2.2.2.2.2.2.2.2.2.2.2.2.2.2.2.2.2.1),.int .i64 (g.2.2.2.2.2.2.2.2.2.2.2.2.2.2.2.2.2.2.2.2.1),.int .i64 (g.2.2.2.2.2.2.2.2.2.2.2.2.2.2.2.2.2.2.2.2.2.1),.int .i64 (g.2.2.2.2.2.2.2.2.2.2.2.2.2.2.2.2.2.2.2.2.2.2.1),.int .i64 (g.2.2.2.2.2.2.2.2.2.2.2.2.2.2.2.2.2.2.2.2.2.2.2.1),.int .i64 (g.2.2.2.2.2.2.2.2.2.2.2.2.2.2.2.2.2.2.2.2.2.2.2.2.1),.int .i64 (g.2.2.2.2.2.2.2.2.2.2.2.2.2.2.2.2.2.2.2.2.2.2.2.2.2.1),.int .i64 (g.2.2.2.2.2.2.2.2.2.2.2.2.2.2.2.2.2.2.2.2.2.2.2.2.2.2.1),.int .i64 (g.2.2.2.2.2.2.2.2.2.2.2.2.2.2.2.2.2.2.2.2.2.2.2.2.2.2.2.1),.string (g.2.2.2.2.2.2.2.2.2.2.2.2.2.2.2.2.2.2.2.2.2.2.2.2.2.2.2.2.1),.int .i64 (g.2.2.2.2.2.2.2.2.2.2.2.2.2.2.2.2.2.2.2.2.2.2.2.2.2.2.2.2.2)]
def fol (x : FT) : List Value := [.string (x.1),.bool (x.2.1),.int .i64 (x.2.2.1),Slc.v (x.2.2.2.1),.int .i64 (x.2.2.2.2.1),Slc.v (x.2.2.2.2.2.1),Slc.v (x.2.2.2.2.2.2)]
structure OpV (w : World) (o : OpT) (L K : List Ob) : Prop where
 args : OV w o.2.1 L
 kids : 0 < L.length -> OV w (arg L 0).2.2.2.2.2 K
 most : L.length <= 9223372036854775807
 mostK : K.length <= 9223372036854775807
 strs : ∀ k ∈ L,k.2.2.2.1.size <= 1048576
 strsK : ∀ k ∈ K,k.2.2.2.1.size <= 1048576
theorem OpV.keep {w w' : World} {o : OpT} {L K : List Ob} (h : OpV w o L K) (e : Ext (fun _=> False) w w') : OpV w' o L K := { h with args := h.args.keep e,kids := fun q=> (h.kids q).keep e }
section
variable {w : World} {mb : Nat} {m : Mc} {g : GT} {x : FT} {o : OpT} {f : Font} {L K : List Ob}
theorem c_Do (hT : TB w) (h : FoV w x f) (hm : Blk w mb (mcc m).toArray TK) (hO : OpV w o L K) :
  C13 (some (⟨mb,0,none⟩ : Addr)) o g x w fun r e w1=> ∃ mc gl,doF g f m (Opr.bl o.1) L K (Opr.bl o.2.2) = (e,mc,gl) /\ Blk w1 mb (mcc mc).toArray TK /\ Ext (· = mb) w w1 /\ VRow w1 r 9 (gl.flatMap glc) /\ ∀ j,r.own j -> w.heap.size <= j := by
 refine T13 _ _ _ _ _ _ ?_
 unfold S13
 refine (Hn.start w).nw fun w5 H=> ?_
 have HG := gr_blk w5 g
 refine Nw.of ?_
 have H := Hn.push (H.keep HG.ext) (show Blk _ w5.heap.size (grl g).toArray TG from HG.get 0 rfl) H.size fun hm=> Nat.lt_irrefl _ (H.all_lt hm)
 generalize w5.alloc (.cells (Sig.cells LiA30 g).toArray TG) = w6 at *
 have HF := fo_blk w6 x
 refine Nw.of ?_
 have H := Hn.push (H.keep HF.ext) (show Blk _ w6.heap.size (fol x).toArray TF from HF.get 0 rfl) H.size fun hm=> Nat.lt_irrefl _ (H.all_lt hm)
 generalize w6.alloc (.cells (Sig.cells LiA34 x).toArray TF) = w7 at *
 refine H.nw fun w8 H=> H.nw fun w9 H=> ?_
 have bad : ∀ (e : Int) (w1 : World),e ≠ 0 -> doF g f m (Opr.bl o.1) L K (Opr.bl o.2.2) = (e,m,[]) -> Ext (fun _=> False) w9 w1 ->
   S13P w7 w8 (fun r e w1=> ∃ mc gl,doF g f m (Opr.bl o.1) L K (Opr.bl o.2.2) = (e,mc,gl) /\ Blk w1 mb (mcc mc).toArray TK /\ Ext (· = mb) w w1 /\ VRow w1 r 9 (gl.flatMap glc) /\ ∀ j,r.own j -> w.heap.size <= j) (Sw.gup e) w1 := fun e w1 he hF e1=> by
  have H := H.keep e1
  unfold S13P
  refine T38_T106 _ _ _ _ _ ?_
  unfold S38_T106
  refine (Sw.c_caught H e 4 rfl (by simp)).mono (fun w5 H=> ?_) fun _ _ h=> h.elim
  simp only [List.nil_append,List.cons_append,List.set_cons_zero,List.set_cons_succ,Nat.zero_add] at H
  refine H.ld 4 rfl (x := e) rfl (Br.ne (fun _=> ?_) fun h0=> absurd h0 he)
  iterate 1 (refine H.st 3 rfl (by simp) fun _ H=> ?_; simp only [List.nil_append,List.cons_append,List.set_cons_zero,List.set_cons_succ,Nat.zero_add] at H)
  refine H.ld 3 rfl (x := ⟨none,0,0⟩) rfl (H.ld 4 rfl (x := e) rfl ⟨m,[],hF,H.ext.blk hm id,H.ext.mono fun _ _ h=> h.elim,Row.view (Row.nil _ 70 _),fun j hj=> (no_own j hj).elim⟩)
 refine (Sw.c_need _ _ _).mono (fun w15 h15=> ?_) fun v w15 h15=> by cases h15.2.1
 obtain ⟨_,rfl⟩ := h15
 refine H.ld 0 rfl (x := o.1) rfl ?_
 refine (c_knowsT o.1 _).mono ?_
 rintro r17 w18 ⟨rfl,e18⟩
 refine (Sw.c_need _ _ _).mono (fun w19 h19=> ?_) fun v w19 h19=> ?_
 case refine_2=>
  obtain ⟨rfl,hk,rfl⟩ := h19
  exact bad 8 _ (by decide) (by unfold doF; rw [if_pos (of_decide_eq_false hk)]) e18
 obtain ⟨hten,rfl⟩ := h19
 have hten := of_decide_eq_true hten
 have E19 := e18.drew
 have H19 := H.keep E19
 have cl : ∀ {j : Nat} {v : Value},([.string o.1,Slc.v o.2.1,.string o.2.2] : List Value)[j]? = some v -> w19.drew.cell? ⟨w.heap.size,j,none⟩ = some v := fun {j v} hj=> by
  rw [(H19.get 0 rfl).cell,List.getElem?_toArray]
  exact hj
 refine ⟨Ext (fun _=> False) w19.drew,Ext.refl _ _,?_⟩
 refine ldS_ext (x := o.1) (cl rfl) (ldS_ext (x := o.2.1) (cl rfl) (ldS_ext (x := o.2.2) (cl rfl) ?_))
 refine ldS_ext (x := o.1) (cl rfl) (ldS_ext (x := o.2.1) (cl rfl) (ldS_ext (x := o.2.2) (cl rfl) ?_))
 have hO19 := hO.keep H19.ext
 refine (Opr.c_check (show AS _ from hT.keep H19.ext) hO19.args hO.most).mono ?_
 rintro r27 w28 ⟨rfl,e28⟩
 refine ⟨e28,(c_mustO (o.1,o.2.1,o.2.2) _ _).mono (fun r29 w30 h30=> ?_) fun v w30 h30=> ?_⟩
 case refine_2=>
  obtain ⟨rfl,hk,e30⟩ := h30
  exact bad _ _ hk (by unfold doF; rw [if_neg (by simpa using hten),if_pos hk]) (E19.tr (e28.tr e30))
 obtain ⟨_,hchk,e30⟩ := h30
 have E30 := (E19.tr (e28.tr e30)).drew
 have H30 := H.keep E30
 refine Nn.of (Ld.of (H30.ext.blk hm id) (x := m.on) rfl (H30.ld 0 rfl (x := o.1) rfl ?_))
 refine (Sw.c_need _ _ _).mono (fun w34 h34=> ?_) fun v w34 h34=> ?_
 case refine_2=>
  obtain ⟨rfl,hk,rfl⟩ := h34
  refine bad 29 _ (by decide) ?_ E30
  unfold doF
  rw [if_neg (by simpa using hten),if_neg (by simp [hchk]),if_pos]
  rw [eqB] at hk
  have hbt : Opr.bl ⟨#[66,84]⟩ = [66,84] := rfl
  rw [hbt] at hk
  cases hon : m.on <;> by_cases hq : Opr.bl o.1 = [66,84] <;> simp_all
 obtain ⟨hstate,rfl⟩ := h34
 have hstate : ¬ m.on = decide (Opr.bl o.1 = [66,84]) := by
  rw [eqB] at hstate
  have hbt : Opr.bl ⟨#[66,84]⟩ = [66,84] := rfl
  rw [hbt] at hstate
  cases hon : m.on <;> by_cases hq : Opr.bl o.1 = [66,84] <;> simp_all
 have E34 := E30.drew
 have H34 := H.keep E34
 have cl : ∀ {j : Nat} {v : Value},([.string o.1,Slc.v o.2.1,.string o.2.2] : List Value)[j]? = some v -> w30.drew.drew.cell? ⟨w.heap.size,j,none⟩ = some v := fun {j v} hj=> by
  rw [(H34.get 0 rfl).cell,List.getElem?_toArray]
  exact hj
 refine ⟨Ext (fun _=> False) w30.drew.drew,Ext.refl _ _,Nn.of ?_⟩
 refine LdST.blk (ts := LiA38) (pre := []) (post := []) (t := TK) (x := mct m) (fun w' hw=> hw.blk (H34.ext.blk hm id) id) rfl ?_
 refine LdST.blk (ts := LiA30) (pre := []) (post := []) (t := TG) (x := g) (fun w' hw=> hw.blk (H34.get 1 rfl) id) rfl ?_
 refine LdST.blk (ts := LiA34) (pre := []) (post := []) (t := TF) (x := x) (fun w' hw=> hw.blk (H34.get 2 rfl) id) rfl ?_
 refine ldS_ext (x := o.1) (cl rfl) (ldS_ext (x := o.2.1) (cl rfl) (ldS_ext (x := o.2.2) (cl rfl) ?_))
 refine ldS_ext (x := o.1) (cl rfl) (ldS_ext (x := o.2.1) (cl rfl) (ldS_ext (x := o.2.2) (cl rfl) ?_))
 have hO34 := hO.keep H34.ext
 have hdo : ∀ n,nmO (L.filter isNum) = some n -> doF g f m (Opr.bl o.1) L K (Opr.bl o.2.2) = if (actF g f m (Opr.bl o.1) L K n).1 ≠ 0 then ((actF g f m (Opr.bl o.1) L K n).1,m,[]) else actF g f m (Opr.bl o.1) L K n := fun n hn=> by
  unfold doF
  rw [if_neg (by simpa using hten),if_neg (by simp [hchk]),if_neg hstate,hn]
 refine (c_numbers (o := (o.1,o.2.1,o.2.2)) (show AS _ from hT.keep H34.ext) hO34.args hchk hten).mono (fun r46 w47 h47=> ?_) fun v w47 h47=> ?_
 case refine_2=>
  obtain ⟨rfl,hn,e47⟩ := h47
  refine bad 2 _ (by decide) ?_ (E34.tr e47)
  unfold doF
  rw [if_neg (by simpa using hten),if_neg (by simp [hchk]),if_neg hstate,hn]
 obtain ⟨n,hn,hiv,e47⟩ := h47
 have E47 := E34.tr e47
 have H47 := H.keep E47
 have hO47 := hO.keep H47.ext
 refine ⟨e47,Nw.of ?_⟩
 have T : TS w47 (w47.alloc (.cells (tcl m g x o r46 ⟨none,0,0⟩).toArray TU)) w47.heap.size m g x o r46 [] ⟨none,0,0⟩ := ⟨Blk.new _ _ _,Nat.le_refl _,(Ext.refl _ _).alloc _,Row.nil _ _ _,fun j hj=> (no_own j hj).elim⟩
 refine (c_tdo T (hT.keep H47.ext) (h.keep H47.ext) hiv rfl hchk hten (by rw [nmO_len hn,num_len hchk hten]) hO47.args hO47.kids hO47.mostK hO47.strs hO47.strsK).mono (fun w49 h49=> ?_) fun v w49 h49=> ?_
 case refine_2=>
  obtain ⟨e,rfl,he,hF,e49⟩ := h49
  exact bad e _ he (by rw [hdo n hn,if_pos (by rw [hF]; exact he),hF]) (E47.tr e49)
 obtain ⟨mc,gl,gs,g',hact,T49⟩ := h49
 have hdoF : doF g f m (Opr.bl o.1) L K (Opr.bl o.2.2) = (0,mc,gl) := by rw [hdo n hn,hact,if_neg (by simp)]
 have E49 := E47.tr T49.ext
 have H49 := H.keep E49
 refine Nn.of (LdT.blk (ts := LiA38) (pre := []) (post := (tcl mc g' x o r46 gs).drop 13) (t := TU) (x := mct mc) T49.blk rfl (Nn.of ?_))
 refine StT.blk (ts := LiA38) (x := mct mc) (pre := []) (zs := mcc m) (post := []) (t := TK) (H49.ext.blk hm id) rfl rfl fun w53 hb53 e53=> Nn.of ?_
 have hmlt := hm.lt
 have hs47 := H47.size
 have bl7 := H.ge 3 rfl
 have bl8 := H.ge 4 rfl
 have lt7 := H47.lt 3 rfl
 have lt8 := H47.lt 4 rfl
 have ne78 : w7.heap.size ≠ w8.heap.size := fun e=> by
  have := H.h.nodup
  rw [arr_fst] at this
  simp [e] at this
 have hbk : Blk w53 w47.heap.size (tcl mc g' x o r46 gs).toArray TU := e53.blk T49.blk fun e=> by
  have e : w47.heap.size = mb := e
  omega
 refine Ld.of hbk (x := gs) rfl ?_
 have b7 : Blk w53 w7.heap.size [Slc.v ⟨none,0,0⟩].toArray 49 := e53.blk (H49.get 3 rfl) fun e=> by
  have e : w7.heap.size = mb := e
  omega
 have b8 : Blk w53 w8.heap.size [.int .i64 0].toArray 43 := e53.blk (H49.get 4 rfl) fun e=> by
  have e : w8.heap.size = mb := e
  omega
 refine st_one (o := 0) b7 (by simp) fun w56 b7 e56=> st_one (o := 0) (e56.blk b8 fun e=> ne78 e.symm) (by simp) fun w57 b8 e57=> ?_
 have b7 := e57.blk b7 ne78
 have E57 : Ext (fun j=> j = w7.heap.size \/ j = w8.heap.size) w53 w57 := e56.trans e57 (fun _ h=> .inl h) fun _ _ h=> .inr h
 refine T38_nil _ _ _ _ ?_
 unfold S38_nil
 refine (Sw.c_caught_nil _ _).mono (fun w1 h1=> ?_) fun _ _ h=> h.elim
 subst h1
 refine Ld.of b8 (x := 0) rfl (Br.ne (fun h0=> absurd rfl h0) fun _=> ?_)
 refine Ld.of b7 (x := gs) rfl (Ld.of b8 (x := 0) rfl ⟨mc,gl,hdoF,?_,?_,?_,fun j hj=> ?_⟩)
 ·refine E57.blk (show Blk w53 mb (mcc mc).toArray TK from hb53) fun e=> ?_
  have e : mb = w7.heap.size \/ mb = w8.heap.size := e
  omega
 ·refine (H49.ext.trans e53 (fun _ h=> h.elim) fun _ _ h=> h).trans E57 (fun _ h=> h) fun j hj e=> ?_
  have e : j = w7.heap.size \/ j = w8.heap.size := e
  omega
 ·refine ((Row.view T49.row).keepF e53 fun j hj e=> ?_).keepF E57 fun j hj e=> ?_
  ·have h1 := T49.own j hj
   have e : j = mb := e
   omega
  ·have h1 := T49.own j hj
   have e : j = w7.heap.size \/ j = w8.heap.size := e
   omega
 ·have h1 := T49.own j hj
  omega
end
end Ma
end Go.Proofs.YtcblpehnkogfdaaGreatDoor

/- Text machines: the sample of the laws, plain. Conditions: none. -/
namespace Go.Proofs.YtcblpehnkogfdaaGreatDoor
namespace Ma
open Sh Mat Fix Fo Sw Opr Pat
set_option maxRecDepth 100000
set_option maxHeartbeats 4000000
def usualG : GT := (10000,0,0,10000,0,0,0,0,0,0,⟨none,0,0⟩,0,0,0,0,0,0,0,0,0,0,0,0,0,1000000,0,100000,0,⟨#[70]⟩,0)
def usual2 (a b c d : Int) : GT := (10000,0,0,10000,0,0,0,0,0,0,⟨none,0,0⟩,0,0,0,0,0,0,0,0,0,0,0,a,b,c,0,d,0,⟨#[70]⟩,0)
def faceF : Font := ⟨⟨#[70]⟩,false,97,[500],250,[],[]⟩
def noneF : Font := ⟨⟨#[]⟩,false,0,[],0,[],[]⟩
theorem step1 : stepF usualG faceF 97 = (50000,0) := by decide
theorem step2 : stepF (usual2 1 3 1000000 100000) faceF 97 = (50001,0) := by decide
theorem step3 : stepF (usual2 1 3 1000000 100000) faceF 32 = (25004,0) := by decide
theorem step4 : stepF (usual2 0 0 500000 100000) faceF 97 = (25000,0) := by decide
theorem step5 : stepF (usual2 0 0 500000 1073741825) faceF 97 = (0,2) := by decide
theorem step6 : stepF usualG noneF 97 = (0,1) := by decide
theorem face_chk : chkF faceF = 0 := by decide
theorem len_move (a b : Int) : lenO (moveM a b) (0,100000) = some 100000 := by
 have h : IsLen (moveM a b) (0,100000) (100000,0) := by
  unfold IsLen
  rw [show applyP (flat (moveM a b)) (0,100000) = some (0,100000) from (show applyP (10000,0,0,10000,0,0) (0,100000) = some (0,100000) by decide)]
  exact ⟨100000,⟨by decide,by decide,by decide⟩,by decide⟩
 exact resI_yes (lenO_eq h)
theorem u97 : usualB.getD 97 [] = [97] := by kernel_rfl
theorem i97 : usualB.findIdx? (fun m=> decide (m = [97])) = some 97 := by kernel_rfl
theorem say97 : sayF faceF 97 = [97] := by
 unfold sayF signF
 show (if _ then _ else _) = _
 rw [if_neg (by rw [if_pos (show faceF.names = [] from rfl),usualB_len]; decide)]
 have h : (if faceF.names = [] then usualB else faceF.names.map Fo.bl).getD (97 : Int).toNat [] = [97] := by
  rw [if_pos (show faceF.names = [] from rfl)]
  exact u97
 rw [h]
 rw [if_neg (by decide),i97]
 rfl
theorem u98 : usualB.getD 98 [] = [98] := by kernel_rfl
theorem i98 : usualB.findIdx? (fun m=> decide (m = [98])) = some 98 := by kernel_rfl
theorem say98 : sayF faceF 98 = [98] := by
 unfold sayF signF
 show (if _ then _ else _) = _
 rw [if_neg (by rw [if_pos (show faceF.names = [] from rfl),usualB_len]; decide)]
 have h : (if faceF.names = [] then usualB else faceF.names.map Fo.bl).getD (98 : Int).toNat [] = [98] := by
  rw [if_pos (show faceF.names = [] from rfl)]
  exact u98
 rw [h]
 rw [if_neg (by decide),i98]
 rfl
theorem sign0 : signP usualG faceF (moveM 20000 5000) 97 = some ((97,⟨#[97]⟩,20000,5000,70000,5000,100000,⟨#[70]⟩,0),moveM 70000 5000) := by
 unfold signP
 rw [show mulP (moveM 20000 5000) (ctm usualG) = some (moveM 20000 5000) by decide,Option.bind_some,show widthP usualG faceF 97 = some 50000 by decide,Option.bind_some,show scaledP usualG 50000 = some 50000 by decide,Option.bind_some,
  show applyP (moveM 20000 5000) (0,trise usualG) = some (20000,5000) by decide,Option.bind_some,show applyP (moveM 20000 5000) (50000,trise usualG) = some (70000,5000) by decide,Option.bind_some,show lenO (moveM 20000 5000) (0,tsize usualG) = some 100000 from len_move _ _,Option.bind_some,
  show stepP usualG faceF 97 50000 = some 50000 by decide,Option.bind_some,show mulP (moveM 50000 0) (moveM 20000 5000) = some (moveM 70000 5000) by decide,Option.bind_some,say97]
 rfl
theorem sign1 : signP usualG faceF (moveM 70000 5000) 98 = some ((98,⟨#[98]⟩,70000,5000,95000,5000,100000,⟨#[70]⟩,0),moveM 95000 5000) := by
 unfold signP
 rw [show mulP (moveM 70000 5000) (ctm usualG) = some (moveM 70000 5000) by decide,Option.bind_some,show widthP usualG faceF 98 = some 25000 by decide,Option.bind_some,show scaledP usualG 25000 = some 25000 by decide,Option.bind_some,
  show applyP (moveM 70000 5000) (0,trise usualG) = some (70000,5000) by decide,Option.bind_some,show applyP (moveM 70000 5000) (25000,trise usualG) = some (95000,5000) by decide,Option.bind_some,show lenO (moveM 70000 5000) (0,tsize usualG) = some 100000 from len_move _ _,Option.bind_some,
  show stepP usualG faceF 98 25000 = some 25000 by decide,Option.bind_some,show mulP (moveM 25000 0) (moveM 70000 5000) = some (moveM 95000 5000) by decide,Option.bind_some,say98]
 rfl
theorem sign2 : signP usualG faceF (moveM 95000 5000) 97 = some ((97,⟨#[97]⟩,95000,5000,145000,5000,100000,⟨#[70]⟩,0),moveM 145000 5000) := by
 unfold signP
 rw [show mulP (moveM 95000 5000) (ctm usualG) = some (moveM 95000 5000) by decide,Option.bind_some,show widthP usualG faceF 97 = some 50000 by decide,Option.bind_some,show scaledP usualG 50000 = some 50000 by decide,Option.bind_some,
  show applyP (moveM 95000 5000) (0,trise usualG) = some (95000,5000) by decide,Option.bind_some,show applyP (moveM 95000 5000) (50000,trise usualG) = some (145000,5000) by decide,Option.bind_some,show lenO (moveM 95000 5000) (0,tsize usualG) = some 100000 from len_move _ _,Option.bind_some,
  show stepP usualG faceF 97 50000 = some 50000 by decide,Option.bind_some,show mulP (moveM 50000 0) (moveM 95000 5000) = some (moveM 145000 5000) by decide,Option.bind_some,say97]
 rfl
theorem sign3 : signP usualG faceF (moveM 245000 5000) 97 = some ((97,⟨#[97]⟩,245000,5000,295000,5000,100000,⟨#[70]⟩,0),moveM 295000 5000) := by
 unfold signP
 rw [show mulP (moveM 245000 5000) (ctm usualG) = some (moveM 245000 5000) by decide,Option.bind_some,show widthP usualG faceF 97 = some 50000 by decide,Option.bind_some,show scaledP usualG 50000 = some 50000 by decide,Option.bind_some,
  show applyP (moveM 245000 5000) (0,trise usualG) = some (245000,5000) by decide,Option.bind_some,show applyP (moveM 245000 5000) (50000,trise usualG) = some (295000,5000) by decide,Option.bind_some,show lenO (moveM 245000 5000) (0,tsize usualG) = some 100000 from len_move _ _,Option.bind_some,
  show stepP usualG faceF 97 50000 = some 50000 by decide,Option.bind_some,show mulP (moveM 50000 0) (moveM 245000 5000) = some (moveM 295000 5000) by decide,Option.bind_some,say97]
 rfl
theorem ask_sample {s : ByteArray} {e : Int} (he : Mat.okM (moveM e 5000) = true) (hc : (codesF false s).2 = 0) (hl : (codesF false s).1.length <= 16384) : askE usualG (moveM e 5000) faceF s = 0 :=
 ask_of (by decide) he face_chk hc hl
theorem str0 : stringF usualG (moveM 20000 5000) faceF ⟨#[97,98]⟩ = ([(97,⟨#[97]⟩,20000,5000,70000,5000,100000,⟨#[70]⟩,0),(98,⟨#[98]⟩,70000,5000,95000,5000,100000,⟨#[70]⟩,0)],moveM 95000 5000,0) := by
 refine string_of (ask_sample (by decide) (by decide) (by decide)) ?_
 rw [show (codesF faceF.wide ⟨#[97,98]⟩).1 = [97,98] by decide]
 unfold showP
 rw [sign0,Option.bind_some]
 unfold showP
 rw [sign1,Option.bind_some]
 unfold showP
 rfl
theorem str1 : stringF usualG (moveM 95000 5000) faceF ⟨#[97]⟩ = ([(97,⟨#[97]⟩,95000,5000,145000,5000,100000,⟨#[70]⟩,0)],moveM 145000 5000,0) := by
 refine string_of (ask_sample (by decide) (by decide) (by decide)) ?_
 rw [show (codesF faceF.wide ⟨#[97]⟩).1 = [97] by decide]
 unfold showP
 rw [sign2,Option.bind_some]
 unfold showP
 rfl
theorem str2 : stringF usualG (moveM 245000 5000) faceF ⟨#[97]⟩ = ([(97,⟨#[97]⟩,245000,5000,295000,5000,100000,⟨#[70]⟩,0)],moveM 295000 5000,0) := by
 refine string_of (ask_sample (by decide) (by decide) (by decide)) ?_
 rw [show (codesF faceF.wide ⟨#[97]⟩).1 = [97] by decide]
 unfold showP
 rw [sign3,Option.bind_some]
 unfold showP
 rfl
end Ma
end Go.Proofs.YtcblpehnkogfdaaGreatDoor
namespace Go.Proofs.YtcblpehnkogfdaaGreatDoor
namespace Ma
open Sh Mat Fix Fo Sw Opr Pat
set_option maxRecDepth 100000
set_option maxHeartbeats 4000000
theorem chk_of {nm t : Opr.By} {L : List Ob} (ht : takes nm = t) (h63 : t ≠ [63]) (hl : t.length = L.length) (hf : fitsT t L = true) : Opr.chkF nm L [] = 0 := by
 unfold Opr.chkF
 rw [ht,if_neg h63,if_neg (by simpa using hl),if_neg (by rw [hf]; decide),if_neg (by simp)]
theorem doF_eq {g : GT} {f : Font} {m : Mc} {nm d : Opr.By} {L K : List Ob} {n : List Int} (hten : nm ∈ ten) (hchk : Opr.chkF nm L d = 0) (hs : ¬ m.on = decide (nm = [66,84])) (hn : nmO (L.filter isNum) = some n) :
  doF g f m nm L K d = if (actF g f m nm L K n).1 ≠ 0 then ((actF g f m nm L K n).1,m,[]) else actF g f m nm L K n := by
 unfold doF
 rw [if_neg (by simpa using hten),if_neg (by simp [hchk]),if_neg hs,hn]
theorem doF_state {g : GT} {f : Font} {m : Mc} {nm d : Opr.By} {L K : List Ob} (hten : nm ∈ ten) (hchk : Opr.chkF nm L d = 0) (hs : m.on = decide (nm = [66,84])) : doF g f m nm L K d = (29,m,[]) := by
 unfold doF
 rw [if_neg (by simpa using hten),if_neg (by simp [hchk]),if_pos hs]
section
variable {g : GT} {f : Font} {m : Mc} {K : List Ob}
theorem chk_bt : Opr.chkF [66,84] [] [] = 0 := chk_of (t := []) (by decide +kernel) (by decide) rfl rfl
theorem do_bt (h : m.on = false) : doF g f m [66,84] [] K [] = (0,⟨true,one,one⟩,[]) := by
 rw [doF_eq (by decide) chk_bt (by rw [h]; decide) (n := []) rfl]
 rfl
theorem do_bt2 (h : m.on = true) : doF g f m [66,84] [] K [] = (29,m,[]) := doF_state (by decide) chk_bt (by rw [h]; decide)
theorem chk_str {nm : Opr.By} (hnm : takes nm = [115]) {o : Ob} (h4 : o.1 = 4) : Opr.chkF nm [o] [] = 0 := chk_of (t := [115]) hnm (by decide) rfl (by simp [fitsT,fitsK,h4])
theorem do_tj_off (h : m.on = false) {o : Ob} (h4 : o.1 = 4) : doF g f m [84,106] [o] K [] = (29,m,[]) := doF_state (by decide) (chk_str (by decide +kernel) h4) (by rw [h]; decide)
theorem do_q {L : List Ob} {d : Opr.By} : doF g f m [113] L K d = (8,m,[]) := by
 unfold doF
 rw [if_pos (by decide)]
theorem do_et (h : m.on = true) : doF g f m [69,84] [] K [] = (0,m0,[]) := by
 rw [doF_eq (by decide) (chk_of (t := []) (by decide +kernel) (by decide) rfl rfl) (by rw [h]; decide) (n := []) rfl]
 rfl
theorem num_str {o : Ob} (h4 : o.1 = 4) : [o].filter isNum = [] := by
 simp [isNum,h4]
theorem do_tj {m m' : Mc} {o : Ob} {L : List GlT} {tm : Mx} (hon : m.on = true) (h4 : o.1 = 4) (hs : stringF g m.text f o.2.2.2.1 = (L,tm,0)) (hl : L.length <= 16384) : doF g f m [84,106] [o] K [] = (0,⟨true,tm,m.line⟩,L) := by
 have ha : actF g f m [84,106] [o] K [] = (0,⟨true,tm,m.line⟩,L) := by
  unfold actF
  rw [if_neg (by decide),if_neg (by decide),if_neg (by decide),if_neg (by decide),if_neg (by decide),if_pos (by decide)]
  unfold shownF showF
  rw [show arg [o] 0 = o from rfl,hs,if_neg (by simp),if_neg (by simp; omega)]
  rw [<- hon]
  rfl
 rw [doF_eq (by decide) (chk_str (by decide +kernel) h4) (by rw [hon]; decide) (n := []) (by rw [num_str h4]; rfl),ha,if_neg (by simp)]
theorem do_td {a b : Ob} {x y : Int} {l : Mx} (hon : m.on = true) (ha : numV a = some x) (hb : numV b = some y) (hka : a.1 = 2 \/ a.1 = 3) (hkb : b.1 = 2 \/ b.1 = 3) (hl : moveF m.line x y = some l) : doF g f m [84,100] [a,b] K [] = (0,⟨true,l,l⟩,[]) := by
 have hn : nmO ([a,b].filter isNum) = some [x,y] := by
  have e1 : isNum a = true := by simpa [isNum] using hka
  have e2 : isNum b = true := by simpa [isNum] using hkb
  rw [show [a,b].filter isNum = [a,b] by simp [e1,e2]]
  unfold nmO
  rw [ha]
  show ((nmO [b]).bind fun l=> some (x :: l)) = _
  unfold nmO
  rw [hb]
  rfl
 have hact : actF g f m [84,100] [a,b] K [x,y] = (0,⟨true,l,l⟩,[]) := by
  unfold actF
  rw [if_neg (by decide),if_neg (by decide),if_pos (by decide)]
  show movedF m (moveF m.line x y) = _
  rw [hl,<- hon]
  rfl
 have hchk : Opr.chkF [84,100] [a,b] [] = 0 := by
  refine chk_of (t := [110,110]) (by decide +kernel) (by decide) rfl ?_
  rcases hka with h1 | h1 <;> rcases hkb with h2 | h2 <;> simp [fitsT,fitsK,h1,h2]
 rw [doF_eq (by decide) hchk (by rw [hon]; decide) hn,hact,if_neg (by simp)]
theorem chk_arr {o : Ob} (h6 : o.1 = 6) : Opr.chkF [84,74] [o] [] = 0 := chk_of (t := [97]) (by decide +kernel) (by decide) rfl (by simp [fitsT,fitsK,h6])
theorem act_arr {o : Ob} {n : List Int} : actF g f m [84,74] [o] K n = if K.all kidOk = false then (28,m,[]) else ((rowF g f K m.text []).1,{ m with text := (rowF g f K m.text []).2.2 },(rowF g f K m.text []).2.1) := by
 unfold actF
 rw [if_neg (by decide),if_neg (by decide),if_neg (by decide),if_neg (by decide),if_neg (by decide),if_neg (by decide),if_neg (by decide),if_neg (by decide)]
theorem num_arr {o : Ob} (h6 : o.1 = 6) : [o].filter isNum = [] := by
 simp [isNum,h6]
theorem do_arr_no {o : Ob} (hon : m.on = true) (h6 : o.1 = 6) (hk : K.all kidOk = false) : doF g f m [84,74] [o] K [] = (28,m,[]) := by
 rw [doF_eq (by decide) (chk_arr h6) (by rw [hon]; decide) (n := []) (by rw [num_arr h6]; rfl),act_arr,if_pos hk,if_pos (by simp)]
theorem do_arr {o : Ob} {gl : List GlT} {tm : Mx} (hon : m.on = true) (h6 : o.1 = 6) (hk : K.all kidOk = true) (hr : rowF g f K m.text [] = (0,gl,tm)) : doF g f m [84,74] [o] K [] = (0,⟨true,tm,m.line⟩,gl) := by
 have ha : actF g f m [84,74] [o] K [] = (0,⟨true,tm,m.line⟩,gl) := by
  rw [act_arr,if_neg (by rw [hk]; decide),hr,<- hon]
 rw [doF_eq (by decide) (chk_arr h6) (by rw [hon]; decide) (n := []) (by rw [num_arr h6]; rfl),ha,if_neg (by simp)]
end
theorem row_sample {a c : Ob} {b : Ob} (ha : a.1 = 4) (has : a.2.2.2.1 = ⟨#[97]⟩) (hb : b.1 = 2) (hbn : b.2.1 = -1000) (hc : c.1 = 4) (hcs : c.2.2.2.1 = ⟨#[97]⟩) : rowF usualG faceF [a,b,c] (moveM 95000 5000) [] =
  (0,[(97,⟨#[97]⟩,95000,5000,145000,5000,100000,⟨#[70]⟩,0),(97,⟨#[97]⟩,245000,5000,295000,5000,100000,⟨#[70]⟩,0)],moveM 295000 5000) := by
 have h1 : kidF usualG faceF (moveM 95000 5000) [] a = (0,[(97,⟨#[97]⟩,95000,5000,145000,5000,100000,⟨#[70]⟩,0)],moveM 145000 5000) := by
  unfold kidF showF
  rw [if_pos ha,has,str1]
  rfl
 have hbv : numV b = some (-10000000) := by
  unfold numV
  rw [if_pos hb,hbn]
  decide
 have h2 : ∀ gl,kidF usualG faceF (moveM 145000 5000) gl b = (0,gl,moveM 245000 5000) := fun gl=> by
  unfold kidF
  rw [if_neg (by rw [hb]; decide),hbv]
  rw [show backF usualG (moveM 145000 5000) ((some (-10000000 : Int)).getD 0) = some (moveM 245000 5000) by decide]
 have h3 : ∀ g1,kidF usualG faceF (moveM 245000 5000) [g1] c = (0,[g1,(97,⟨#[97]⟩,245000,5000,295000,5000,100000,⟨#[70]⟩,0)],moveM 295000 5000) := fun g1=> by
  unfold kidF showF
  rw [if_pos hc,hcs,str2]
  rfl
 rw [rowF_step h1,rowF_step (h2 _),rowF_step (h3 _)]
 rfl
end Ma
end Go.Proofs.YtcblpehnkogfdaaGreatDoor
