/- The formulas of 14 functions of the program, written by program (gen.py); the kernel checks each. No condition. -/
import Derived.Test.YtjbeembbnkmpeaaDoorQPDoes2
import Derived.Test.YtjbeembbnkmpeaaDoorQPDoes3
import Derived.Test.YtjbeembbnkmpeaaDoorQPDoes4
import Derived.RangeFuncNested
import Derived.RangeFuncBound
import Derived.RangeFuncCalls
import Derived.RangeFuncLeaves
import Derived.RangeFuncBox
import Derived.WalkKit
import Derived.OwnWalkIn
import Derived.TacticsInMore
import Derived.LoopNIn
import Derived.LoopIn
import Derived.Sort.LoopGhostIn
import Derived.IntWalk
import Derived.Below
import Derived.Laws.AppendOwn
import Derived.Laws.OwnMore
import Derived.Laws.BytesString
import Derived.Laws.BytesArg
namespace Go.Proofs.YtjbeembbnkmpeaaDoor
open Sh
set_option linter.unusedVariables false
set_option maxRecDepth 100000

def C30 (x1 : Option Addr) (o2 : ByteArray × Slc × ByteArray) (g3 : TyA29) (w : World) (R : (TyA75) → Bool → Int → World → Prop) : Prop :=
  Calls Tryd.prog 30 #[.pointer x1, .agg #[.string o2.1, Slc.v o2.2.1, .string o2.2.2], .agg (Sig.cells LiA29 g3).toArray] w fun e w' => ∃ r0 : TyA75, ∃ r1 : Bool, ∃ r2 : Int, e = .returned (.tuple #[.agg (Sig.cells LiA75 r0).toArray, .bool r1, .int .i64 r2]) ∧ R r0 r1 r2 w'
theorem C30.mono {x1 : Option Addr} {o2 : ByteArray × Slc × ByteArray} {g3 : TyA29} {w : World} {R R' : (TyA75) → Bool → Int → World → Prop} (h : C30 x1 o2 g3 w R) (hr : ∀ r0 r1 r2 w', R r0 r1 r2 w' → R' r0 r1 r2 w') : C30 x1 o2 g3 w R' :=
  Calls.mono h fun _ _ ⟨r0, r1, r2, he, hR⟩ => ⟨r0, r1, r2, he, hr _ _ _ _ hR⟩
def C35 (name1 : ByteArray) (w : World) (R : Bool → World → Prop) : Prop :=
  Calls Tryd.prog 35 #[.string name1] w fun e w' => ∃ r0 : Bool, e = .returned (.bool r0) ∧ R r0 w'
theorem C35.mono {name1 : ByteArray} {w : World} {R R' : Bool → World → Prop} (h : C35 name1 w R) (hr : ∀ r0 w', R r0 w' → R' r0 w') : C35 name1 w R' :=
  Calls.mono h fun _ _ ⟨r0, he, hR⟩ => ⟨r0, he, hr _ _ hR⟩
def C97 (name1 : ByteArray) (w : World) (R : Int → World → Prop) : Prop :=
  Calls Tryd.prog 97 #[.string name1] w fun e w' => ∃ r0 : Int, e = .returned (.int .i64 r0) ∧ R r0 w'
theorem C97.mono {name1 : ByteArray} {w : World} {R R' : Int → World → Prop} (h : C97 name1 w R) (hr : ∀ r0 w', R r0 w' → R' r0 w') : C97 name1 w R' :=
  Calls.mono h fun _ _ ⟨r0, he, hR⟩ => ⟨r0, he, hr _ _ hR⟩
def C36 (x1 : Slc × Bool) (o2 : ByteArray × Slc × ByteArray) (g3 : TyA29) (w : World) (R : (Slc × Bool) → (TyA75) → Bool → Int → World → Prop) : Prop :=
  Calls Tryd.prog 36 #[.agg #[Slc.v x1.1, .bool x1.2], .agg #[.string o2.1, Slc.v o2.2.1, .string o2.2.2], .agg (Sig.cells LiA29 g3).toArray] w fun e w' => ∃ r0 : Slc × Bool, ∃ r1 : TyA75, ∃ r2 : Bool, ∃ r3 : Int, e = .returned (.tuple #[.agg #[Slc.v r0.1, .bool r0.2], .agg (Sig.cells LiA75 r1).toArray, .bool r2, .int .i64 r3]) ∧ R r0 r1 r2 r3 w'
theorem C36.mono {x1 : Slc × Bool} {o2 : ByteArray × Slc × ByteArray} {g3 : TyA29} {w : World} {R R' : (Slc × Bool) → (TyA75) → Bool → Int → World → Prop} (h : C36 x1 o2 g3 w R) (hr : ∀ r0 r1 r2 r3 w', R r0 r1 r2 r3 w' → R' r0 r1 r2 r3 w') : C36 x1 o2 g3 w R' :=
  Calls.mono h fun _ _ ⟨r0, r1, r2, r3, he, hR⟩ => ⟨r0, r1, r2, r3, he, hr _ _ _ _ _ hR⟩
def C40 (a1 : Slc) (b2 : Slc) (w : World) (R : Bool → World → Prop) : Prop :=
  Calls Tryd.prog 40 #[Slc.v a1, Slc.v b2] w fun e w' => ∃ r0 : Bool, e = .returned (.bool r0) ∧ R r0 w'
theorem C40.mono {a1 : Slc} {b2 : Slc} {w : World} {R R' : Bool → World → Prop} (h : C40 a1 b2 w R) (hr : ∀ r0 w', R r0 w' → R' r0 w') : C40 a1 b2 w R' :=
  Calls.mono h fun _ _ ⟨r0, he, hR⟩ => ⟨r0, he, hr _ _ hR⟩
def C37 (a1 : TyA75) (b2 : TyA75) (w : World) (R : Bool → World → Prop) : Prop :=
  Calls Tryd.prog 37 #[.agg (Sig.cells LiA75 a1).toArray, .agg (Sig.cells LiA75 b2).toArray] w fun e w' => ∃ r0 : Bool, e = .returned (.bool r0) ∧ R r0 w'
theorem C37.mono {a1 : TyA75} {b2 : TyA75} {w : World} {R R' : Bool → World → Prop} (h : C37 a1 b2 w R) (hr : ∀ r0 w', R r0 w' → R' r0 w') : C37 a1 b2 w R' :=
  Calls.mono h fun _ _ ⟨r0, he, hR⟩ => ⟨r0, he, hr _ _ hR⟩
def C98 (name1 : ByteArray) (w : World) (R : Bool → World → Prop) : Prop :=
  Calls Tryd.prog 98 #[.string name1] w fun e w' => ∃ r0 : Bool, e = .returned (.bool r0) ∧ R r0 w'
theorem C98.mono {name1 : ByteArray} {w : World} {R R' : Bool → World → Prop} (h : C98 name1 w R) (hr : ∀ r0 w', R r0 w' → R' r0 w') : C98 name1 w R' :=
  Calls.mono h fun _ _ ⟨r0, he, hR⟩ => ⟨r0, he, hr _ _ hR⟩
def C99 (o1 : ByteArray × Slc × ByteArray) (w : World) (R : Slc → Int → World → Prop) : Prop :=
  Calls Tryd.prog 99 #[.agg #[.string o1.1, Slc.v o1.2.1, .string o1.2.2]] w fun e w' => ∃ r0 : Slc, ∃ r1 : Int, e = .returned (.tuple #[Slc.v r0, .int .i64 r1]) ∧ R r0 r1 w'
theorem C99.mono {o1 : ByteArray × Slc × ByteArray} {w : World} {R R' : Slc → Int → World → Prop} (h : C99 o1 w R) (hr : ∀ r0 r1 w', R r0 r1 w' → R' r0 r1 w') : C99 o1 w R' :=
  Calls.mono h fun _ _ ⟨r0, r1, he, hR⟩ => ⟨r0, r1, he, hr _ _ _ hR⟩
def C100 (name1 : ByteArray) (n2 : Slc) (w : World) (R : Slc → Int → World → Prop) : Prop :=
  Calls Tryd.prog 100 #[.string name1, Slc.v n2] w fun e w' => ∃ r0 : Slc, ∃ r1 : Int, e = .returned (.tuple #[Slc.v r0, .int .i64 r1]) ∧ R r0 r1 w'
theorem C100.mono {name1 : ByteArray} {n2 : Slc} {w : World} {R R' : Slc → Int → World → Prop} (h : C100 name1 n2 w R) (hr : ∀ r0 r1 w', R r0 r1 w' → R' r0 r1 w') : C100 name1 n2 w R' :=
  Calls.mono h fun _ _ ⟨r0, r1, he, hR⟩ => ⟨r0, r1, he, hr _ _ _ hR⟩
def C101 (l1 : Slc) (w : World) (R : (Int × Int) → World → Prop) : Prop :=
  Calls Tryd.prog 101 #[Slc.v l1] w fun e w' => ∃ r0 : Int × Int, e = .returned (.agg #[.int .i64 (r0.1), .int .i64 (r0.2)]) ∧ R r0 w'
theorem C101.mono {l1 : Slc} {w : World} {R R' : (Int × Int) → World → Prop} (h : C101 l1 w R) (hr : ∀ r0 w', R r0 w' → R' r0 w') : C101 l1 w R' :=
  Calls.mono h fun _ _ ⟨r0, he, hR⟩ => ⟨r0, he, hr _ _ hR⟩
def C102 (name1 : ByteArray) (p2 : Slc) (here3 : Int × Int) (w : World) (R : Slc → World → Prop) : Prop :=
  Calls Tryd.prog 102 #[.string name1, Slc.v p2, .agg #[.int .i64 (here3.1), .int .i64 (here3.2)]] w fun e w' => ∃ r0 : Slc, e = .returned (Slc.v r0) ∧ R r0 w'
theorem C102.mono {name1 : ByteArray} {p2 : Slc} {here3 : Int × Int} {w : World} {R R' : Slc → World → Prop} (h : C102 name1 p2 here3 w R) (hr : ∀ r0 w', R r0 w' → R' r0 w') : C102 name1 p2 here3 w R' :=
  Calls.mono h fun _ _ ⟨r0, he, hR⟩ => ⟨r0, he, hr _ _ hR⟩
def C38 (x1 : Slc × Bool) (o2 : ByteArray × Slc × ByteArray) (m3 : Int × Int × Int × Int × Int × Int) (w : World) (R : (Slc × Bool) → Int → World → Prop) : Prop :=
  Calls Tryd.prog 38 #[.agg #[Slc.v x1.1, .bool x1.2], .agg #[.string o2.1, Slc.v o2.2.1, .string o2.2.2], .agg #[.int .i64 (m3.1), .int .i64 (m3.2.1), .int .i64 (m3.2.2.1), .int .i64 (m3.2.2.2.1), .int .i64 (m3.2.2.2.2.1), .int .i64 (m3.2.2.2.2.2)]] w fun e w' => ∃ r0 : Slc × Bool, ∃ r1 : Int, e = .returned (.tuple #[.agg #[Slc.v r0.1, .bool r0.2], .int .i64 r1]) ∧ R r0 r1 w'
theorem C38.mono {x1 : Slc × Bool} {o2 : ByteArray × Slc × ByteArray} {m3 : Int × Int × Int × Int × Int × Int} {w : World} {R R' : (Slc × Bool) → Int → World → Prop} (h : C38 x1 o2 m3 w R) (hr : ∀ r0 r1 w', R r0 r1 w' → R' r0 r1 w') : C38 x1 o2 m3 w R' :=
  Calls.mono h fun _ _ ⟨r0, r1, he, hR⟩ => ⟨r0, r1, he, hr _ _ _ hR⟩
def C103 (l1 : Slc) (w : World) (R : Slc → World → Prop) : Prop :=
  Calls Tryd.prog 103 #[Slc.v l1] w fun e w' => ∃ r0 : Slc, e = .returned (Slc.v r0) ∧ R r0 w'
theorem C103.mono {l1 : Slc} {w : World} {R R' : Slc → World → Prop} (h : C103 l1 w R) (hr : ∀ r0 w', R r0 w' → R' r0 w') : C103 l1 w R' :=
  Calls.mono h fun _ _ ⟨r0, he, hR⟩ => ⟨r0, he, hr _ _ hR⟩
def C39 (l1 : Slc) (w : World) (R : (Int × Int × Int × Int) → Bool → World → Prop) : Prop :=
  Calls Tryd.prog 39 #[Slc.v l1] w fun e w' => ∃ r0 : Int × Int × Int × Int, ∃ r1 : Bool, e = .returned (.tuple #[.agg #[.int .i64 (r0.1), .int .i64 (r0.2.1), .int .i64 (r0.2.2.1), .int .i64 (r0.2.2.2)], .bool r1]) ∧ R r0 r1 w'
theorem C39.mono {l1 : Slc} {w : World} {R R' : (Int × Int × Int × Int) → Bool → World → Prop} (h : C39 l1 w R) (hr : ∀ r0 r1 w', R r0 r1 w' → R' r0 r1 w') : C39 l1 w R' :=
  Calls.mono h fun _ _ ⟨r0, r1, he, hR⟩ => ⟨r0, r1, he, hr _ _ _ hR⟩

def S30J1 (x1 : Option Addr) (vw5 : World) (s52 : Addr) (R : (TyA75) → Bool → Int → World → Prop) (s61 : Unit) (vw62 : World) : Prop :=
  Nn x1 fun a67 =>
  Ld vw62 (a67.add 3) Value.bool fun (x68 : Bool) =>
  Br x68 (Ld vw62 s52 (Value.int .i64) fun (x69 : Int) =>
    St vw62 s52 (.int .i64 (ior .i64 x69 8)) fun vw70 =>
    Nn x1 fun a71 =>
    St vw70 a71 (Slc.v ((⟨none, 0, 0⟩ : Slc))) fun vw72 =>
    St vw72 (a71.add 1) (.int .i64 0) fun vw73 =>
    St vw73 (a71.add 2) (.int .i64 0) fun vw74 =>
    St vw74 (a71.add 3) (.bool false) fun vw75 =>
    Ld vw75 (s52.add 1) Slc.v fun (x76 : Slc) =>
    Br (((x76.len : Nat) : Int) == 0) (StT (⟨vw5.heap.size, 0, none⟩ : Addr) 0 LiA75 ((0, (⟨none, 0, 0⟩ : Slc), 0, 0, 0, 0, 0, 0, 0, 0, 0, 0) : TyA75) vw75 fun vw77 =>
      LdT vw77 (⟨vw5.heap.size, 0, none⟩ : Addr) 0 LiA75 fun (x78 : TyA75) =>
      R x78 false 0 vw77) (Ld vw75 s52 (Value.int .i64) fun (x79 : Int) =>
      Br (x79 == 0) (StT (⟨vw5.heap.size, 0, none⟩ : Addr) 0 LiA75 ((0, (⟨none, 0, 0⟩ : Slc), 0, 0, 0, 0, 0, 0, 0, 0, 0, 0) : TyA75) vw75 fun vw80 =>
        LdT vw80 (⟨vw5.heap.size, 0, none⟩ : Addr) 0 LiA75 fun (x81 : TyA75) =>
        R x81 false 0 vw80) (LdT vw75 s52 0 LiA75 fun (x82 : TyA75) =>
        StT (⟨vw5.heap.size, 0, none⟩ : Addr) 0 LiA75 x82 vw75 fun vw83 =>
        LdT vw83 (⟨vw5.heap.size, 0, none⟩ : Addr) 0 LiA75 fun (x84 : TyA75) =>
        R x84 true 0 vw83))) (Nn x1 fun a85 =>
    St vw62 a85 (Slc.v ((⟨none, 0, 0⟩ : Slc))) fun vw86 =>
    St vw86 (a85.add 1) (.int .i64 0) fun vw87 =>
    St vw87 (a85.add 2) (.int .i64 0) fun vw88 =>
    St vw88 (a85.add 3) (.bool false) fun vw89 =>
    Ld vw89 (s52.add 1) Slc.v fun (x90 : Slc) =>
    Br (((x90.len : Nat) : Int) == 0) (StT (⟨vw5.heap.size, 0, none⟩ : Addr) 0 LiA75 ((0, (⟨none, 0, 0⟩ : Slc), 0, 0, 0, 0, 0, 0, 0, 0, 0, 0) : TyA75) vw89 fun vw91 =>
      LdT vw91 (⟨vw5.heap.size, 0, none⟩ : Addr) 0 LiA75 fun (x92 : TyA75) =>
      R x92 false 0 vw91) (Ld vw89 s52 (Value.int .i64) fun (x93 : Int) =>
      Br (x93 == 0) (StT (⟨vw5.heap.size, 0, none⟩ : Addr) 0 LiA75 ((0, (⟨none, 0, 0⟩ : Slc), 0, 0, 0, 0, 0, 0, 0, 0, 0, 0) : TyA75) vw89 fun vw94 =>
        LdT vw94 (⟨vw5.heap.size, 0, none⟩ : Addr) 0 LiA75 fun (x95 : TyA75) =>
        R x95 false 0 vw94) (LdT vw89 s52 0 LiA75 fun (x96 : TyA75) =>
        StT (⟨vw5.heap.size, 0, none⟩ : Addr) 0 LiA75 x96 vw89 fun vw97 =>
        LdT vw97 (⟨vw5.heap.size, 0, none⟩ : Addr) 0 LiA75 fun (x98 : TyA75) =>
        R x98 true 0 vw97)))
def S30J2 (x1 : Option Addr) (vw5 : World) (vw14 : World) (R : (TyA75) → Bool → Int → World → Prop) (s52 : Addr) (vw53 : World) : Prop :=
  Join (S30J1 x1 vw5 s52 R) fun (vJ99 : Unit → World → Prop) =>
    Ld vw53 ((⟨vw14.heap.size, 0, none⟩ : Addr).add 1) Value.bool fun (x100 : Bool) =>
    Br x100 (Ld vw53 (s52.add 1) Slc.v fun (x101 : Slc) =>
      Br (decide (((x101.len : Nat) : Int) > 0)) (Ld vw53 (s52.add 1) Slc.v fun (x102 : Slc) =>
        Nw vw53 (.cells #[.int .i64 4, .int .i64 0, .int .i64 0, .int .i64 0, .int .i64 0, .int .i64 0, .int .i64 0] 67) fun vw103 =>
        Rn Tryd.prog (Builtin.append_ #[64, 64] 64 #[Slc.v x102, Slc.v ((⟨some ⟨vw53.heap.size, 0, none⟩, 1, 1⟩ : Slc))]) vw103 Slc.v fun (x104 : Slc) vw105 =>
        St vw105 (s52.add 1) (Slc.v x104) fun vw106 =>
        vJ99 () vw106) (vJ99 () vw53)) (vJ99 () vw53)
/-- (*foliant/path.Path).Paint -/
def S30 (x1 : Option Addr) (o2 : ByteArray × Slc × ByteArray) (g3 : TyA29) (w : World) (R : (TyA75) → Bool → Int → World → Prop) : Prop :=
  Nw w (.cells #[.string o2.1, Slc.v o2.2.1, .string o2.2.2] 63) fun vw4 =>
  Nw vw4 (.cells (Sig.cells LiA29 g3).toArray 30) fun vw5 =>
  Nw vw5 (.cells #[.int .i64 0, Slc.v ((⟨none, 0, 0⟩ : Slc)), .int .i64 0, .int .i64 0, .int .i64 0, .int .i64 0, .int .i64 0, .int .i64 0, .int .i64 0, .int .i64 0, .int .i64 0, .int .i64 0] 76) fun vw6 =>
  Br x1.isNone (StT (⟨vw5.heap.size, 0, none⟩ : Addr) 0 LiA75 ((0, (⟨none, 0, 0⟩ : Slc), 0, 0, 0, 0, 0, 0, 0, 0, 0, 0) : TyA75) vw6 fun vw8 =>
    LdT vw8 (⟨vw5.heap.size, 0, none⟩ : Addr) 0 LiA75 fun (x9 : TyA75) =>
    R x9 false 1 vw8) (Ld vw6 (⟨0, 0, none⟩ : Addr) Value.map fun (x10 : Option Nat) =>
    Ld vw6 (⟨w.heap.size, 0, none⟩ : Addr) Value.string fun (x11 : ByteArray) =>
    ∃ x12 : Int × Bool, ∃ vok13 : Bool, ∃ vw14 : World, RunV Tryd.prog (Instr.lookup 158 (.map x10) (.string x11) true) vw6 (.tuple #[.agg #[.int .i64 (x12.1), .bool x12.2], .bool vok13]) vw14 ∧ Nw vw14 (.cells #[.int .i64 0, .bool false] 156) fun vw15 =>
    St vw15 (⟨vw14.heap.size, 0, none⟩ : Addr) (.int .i64 (x12.1)) fun vw16 =>
    St vw16 ((⟨vw14.heap.size, 0, none⟩ : Addr).add 1) (.bool x12.2) fun vw17 =>
    Br (!vok13) (StT (⟨vw5.heap.size, 0, none⟩ : Addr) 0 LiA75 ((0, (⟨none, 0, 0⟩ : Slc), 0, 0, 0, 0, 0, 0, 0, 0, 0, 0) : TyA75) vw17 fun vw19 =>
      LdT vw19 (⟨vw5.heap.size, 0, none⟩ : Addr) 0 LiA75 fun (x20 : TyA75) =>
      R x20 false 8 vw19) (Ld vw17 (⟨w.heap.size, 0, none⟩ : Addr) Value.string fun (x27 : ByteArray) =>
      Ld vw17 ((⟨w.heap.size, 0, none⟩ : Addr).add 1) Slc.v fun (x28 : Slc) =>
      Ld vw17 ((⟨w.heap.size, 0, none⟩ : Addr).add 2) Value.string fun (x29 : ByteArray) =>
      C80 (x27, x28, x29) vw17 fun r30 vw31 =>
        Br (r30 != 0) (StT (⟨vw5.heap.size, 0, none⟩ : Addr) 0 LiA75 ((0, (⟨none, 0, 0⟩ : Slc), 0, 0, 0, 0, 0, 0, 0, 0, 0, 0) : TyA75) vw31 fun vw32 =>
          LdT vw32 (⟨vw5.heap.size, 0, none⟩ : Addr) 0 LiA75 fun (x33 : TyA75) =>
          R x33 false r30 vw32) (Join (S30J2 x1 vw5 vw14 R) fun (vJ107 : Addr → World → Prop) =>
            ∃ vS108 : World → Prop, vS108 vw31.drew ∧ LdS vS108 (⟨vw14.heap.size, 0, none⟩ : Addr) (Value.int .i64) fun (x109 : Int) =>
            Nn x1 fun a110 =>
            LdS vS108 a110 Slc.v fun (x111 : Slc) =>
            LdS vS108 ((⟨vw4.heap.size, 0, none⟩ : Addr).add 12) (Value.int .i64) fun (x112 : Int) =>
            LdS vS108 (((⟨vw4.heap.size, 0, none⟩ : Addr).add 12).add 1) (Value.int .i64) fun (x113 : Int) =>
            LdS vS108 (((⟨vw4.heap.size, 0, none⟩ : Addr).add 12).add 2) (Value.int .i64) fun (x114 : Int) =>
            LdS vS108 (((⟨vw4.heap.size, 0, none⟩ : Addr).add 12).add 3) (Value.int .i64) fun (x115 : Int) =>
            LdS vS108 (((⟨vw4.heap.size, 0, none⟩ : Addr).add 12).add 4) (Value.int .i64) fun (x116 : Int) =>
            LdS vS108 ((⟨vw4.heap.size, 0, none⟩ : Addr).add 17) (Value.int .i64) fun (x117 : Int) =>
            LdS vS108 (((⟨vw4.heap.size, 0, none⟩ : Addr).add 17).add 1) (Value.int .i64) fun (x118 : Int) =>
            LdS vS108 (((⟨vw4.heap.size, 0, none⟩ : Addr).add 17).add 2) (Value.int .i64) fun (x119 : Int) =>
            LdS vS108 (((⟨vw4.heap.size, 0, none⟩ : Addr).add 17).add 3) (Value.int .i64) fun (x120 : Int) =>
            LdS vS108 (((⟨vw4.heap.size, 0, none⟩ : Addr).add 17).add 4) (Value.int .i64) fun (x121 : Int) =>
            (Nw vw31.drew (.cells #[.int .i64 0, Slc.v ((⟨none, 0, 0⟩ : Slc)), .int .i64 0, .int .i64 0, .int .i64 0, .int .i64 0, .int .i64 0, .int .i64 0, .int .i64 0, .int .i64 0, .int .i64 0, .int .i64 0] 76) fun vw122 =>
              StT (⟨vw31.drew.heap.size, 0, none⟩ : Addr) 0 LiA75 ((x109, x111, x112, x113, x114, x115, x116, x117, x118, x119, x120, x121) : TyA75) vw122 fun vw123 =>
              vJ107 (⟨vw31.drew.heap.size, 0, none⟩ : Addr) vw123) ∧
            (Nw vw31.drew (.cells #[.int .i64 0, Slc.v ((⟨none, 0, 0⟩ : Slc)), .int .i64 0, .int .i64 0, .int .i64 0, .int .i64 0, .int .i64 0, .int .i64 0, .int .i64 0, .int .i64 0, .int .i64 0, .int .i64 0] 76) fun vw124 =>
              vS108 vw124 ∧ StT (⟨vw31.drew.heap.size, 0, none⟩ : Addr) 0 LiA75 ((x109, x111, x112, x113, x114, x115, x116, x117, x118, x119, x120, x121) : TyA75) vw124 fun vw125 =>
              vJ107 (⟨vw31.drew.heap.size, 0, none⟩ : Addr) vw125))))
def pl30 : Plan := (.seq (.reg .seq) (.seq (.seq (.reg .seq) (.cond (.seq (.reg .seq) .leaf) .leaf)) (.seq (.reg .seq) (.seq (.seq (.reg .seq) (.cond (.seq (.reg .seq) .leaf) .leaf)) (.seq (.seq (.reg .seq) (.seq (.reg .seq) (.cond (.seq (.reg .seq) .leaf) .leaf))) (.join [(12, (.one .addr))] [0, 6, 9] (.reg (.held [10] (.take 0 (.take 1 (.take 2 (.take 3 (.take 4 (.take 5 (.take 6 (.take 7 (.take 8 (.take 9 (.effs 10 (some [11]) (.eff 11 (some [12]) (.eff 12 (some []) .done)) (.eff 11 none (.eff 10 (some [12]) (.eff 12 (some []) .done)))))))))))))))) (.join [] [0, 6, 12] (.seq (.reg .seq) (.cond (.reg .seq) .leaf)) (.seq (.seq (.reg .seq) (.cond (.reg .seq) .leaf)) (.seq (.reg .seq) (.seq (.seq (.reg .seq) (.cond (.seq (.reg .seq) .leaf) .leaf)) (.seq (.reg .seq) .leaf)))))))))))
set_option maxRecDepth 100000 in
theorem T30 (x1 : Option Addr) (o2 : ByteArray × Slc × ByteArray) (g3 : TyA29) (w : World) (R : (TyA75) → Bool → Int → World → Prop) (h : S30 x1 o2 g3 w R) : C30 x1 (o2.1, o2.2.1, o2.2.2) g3 w R := by
  have e : fnT Tryd.prog ⟨FF, MAY, (fun _ _ => False)⟩ pl30 Tryd.f30 [.pointer x1, .agg #[.string o2.1, Slc.v o2.2.1, .string o2.2.2], .agg (Sig.cells LiA29 g3).toArray] w [(.agg [(.int .i64), .slc, (.int .i64), (.int .i64), (.int .i64), (.int .i64), (.int .i64), (.int .i64), (.int .i64), (.int .i64), (.int .i64), (.int .i64)]), (.one .bool), (.one (.int .i64))] (fun s w => R s.1 s.2.1 s.2.2 w) = S30 x1 o2 g3 w R := by kernel_rfl
  exact (fn_calls okF okM Tryd.func30 (by kernel_rfl) (by kernel_rfl) (e.mpr h)).mono fun _ _ ⟨s, he, hR⟩ => ⟨s.1, s.2.1, s.2.2, he, hR⟩

/-- foliant/foliantref45.Paints -/
def S35 (name1 : ByteArray) (w : World) (R : Bool → World → Prop) : Prop :=
  Br (name1.toList == (⟨#[83]⟩ : ByteArray).toList) (Br (name1.toList == (⟨#[83]⟩ : ByteArray).toList) (R true w) (R false w)) (Br (name1.toList == (⟨#[115]⟩ : ByteArray).toList) (Br (name1.toList == (⟨#[115]⟩ : ByteArray).toList) (R true w) (R false w)) (Br (name1.toList == (⟨#[102]⟩ : ByteArray).toList) (Br (name1.toList == (⟨#[102]⟩ : ByteArray).toList) (R true w) (R false w)) (Br (name1.toList == (⟨#[70]⟩ : ByteArray).toList) (Br (name1.toList == (⟨#[70]⟩ : ByteArray).toList) (R true w) (R false w)) (Br (name1.toList == (⟨#[102, 42]⟩ : ByteArray).toList) (Br (name1.toList == (⟨#[102, 42]⟩ : ByteArray).toList) (R true w) (R false w)) (Br (name1.toList == (⟨#[66]⟩ : ByteArray).toList) (Br (name1.toList == (⟨#[66]⟩ : ByteArray).toList) (R true w) (R false w)) (Br (name1.toList == (⟨#[66, 42]⟩ : ByteArray).toList) (Br (name1.toList == (⟨#[66, 42]⟩ : ByteArray).toList) (R true w) (R false w)) (Br (name1.toList == (⟨#[98]⟩ : ByteArray).toList) (Br (name1.toList == (⟨#[98]⟩ : ByteArray).toList) (R true w) (R false w)) (Br (name1.toList == (⟨#[98, 42]⟩ : ByteArray).toList) (Br (name1.toList == (⟨#[98, 42]⟩ : ByteArray).toList) (R true w) (R false w)) (Br (name1.toList == (⟨#[110]⟩ : ByteArray).toList) (R true w) (R false w))))))))))
def pl35 : Plan := (.seq (.reg .seq) (.seq (.seq (.reg .seq) (.block (.seq (.seq (.reg .seq) (.cond .leaf (.seq (.reg .seq) (.cond .leaf (.seq (.reg .seq) (.cond .leaf (.seq (.reg .seq) (.cond .leaf (.seq (.reg .seq) (.cond .leaf (.seq (.reg .seq) (.cond .leaf (.seq (.reg .seq) (.cond .leaf (.seq (.reg .seq) (.cond .leaf (.seq (.reg .seq) (.cond .leaf (.reg .seq))))))))))))))))))) (.cond (.seq (.reg .seq) .leaf) .leaf)))) (.seq (.reg .seq) .leaf)))
set_option maxRecDepth 100000 in
theorem T35 (name1 : ByteArray) (w : World) (R : Bool → World → Prop) (h : S35 name1 w R) : C35 name1 w R := by
  have e : fnT Tryd.prog ⟨FF, MAY, (fun _ _ => False)⟩ pl35 Tryd.f35 [.string name1] w [(.one .bool)] (fun s w => R s w) = S35 name1 w R := by kernel_rfl
  exact (fn_calls okF okM Tryd.func35 (by kernel_rfl) (by kernel_rfl) (e.mpr h)).mono fun _ _ ⟨s, he, hR⟩ => ⟨s, he, hR⟩

def S97J1 (name1 : ByteArray) (R : Int → World → Prop) (s4 : Bool) (vw5 : World) : Prop :=
  Br s4 (R 1 vw5) (Br (name1.toList == (⟨#[102, 42]⟩ : ByteArray).toList) (R 3 vw5) (Br (name1.toList == (⟨#[66]⟩ : ByteArray).toList) (Br (name1.toList == (⟨#[66]⟩ : ByteArray).toList) (R 5 vw5) (Br (name1.toList == (⟨#[66, 42]⟩ : ByteArray).toList) (Br (name1.toList == (⟨#[66, 42]⟩ : ByteArray).toList) (R 7 vw5) (R 0 vw5)) (Br (name1.toList == (⟨#[98, 42]⟩ : ByteArray).toList) (R 7 vw5) (R 0 vw5)))) (Br (name1.toList == (⟨#[98]⟩ : ByteArray).toList) (R 5 vw5) (Br (name1.toList == (⟨#[66, 42]⟩ : ByteArray).toList) (Br (name1.toList == (⟨#[66, 42]⟩ : ByteArray).toList) (R 7 vw5) (R 0 vw5)) (Br (name1.toList == (⟨#[98, 42]⟩ : ByteArray).toList) (R 7 vw5) (R 0 vw5))))))
def S97J2 (name1 : ByteArray) (R : Int → World → Prop) (s2 : Bool) (vw3 : World) : Prop :=
  Br s2 (R 4 vw3) (Join (S97J1 name1 R) fun (vJ6 : Bool → World → Prop) =>
      Br (name1.toList == (⟨#[102]⟩ : ByteArray).toList) (vJ6 (name1.toList == (⟨#[102]⟩ : ByteArray).toList) vw3) (vJ6 (name1.toList == (⟨#[70]⟩ : ByteArray).toList) vw3))
/-- foliant/foliantref45.how -/
def S97 (name1 : ByteArray) (w : World) (R : Int → World → Prop) : Prop :=
  Join (S97J2 name1 R) fun (vJ7 : Bool → World → Prop) =>
    Br (name1.toList == (⟨#[83]⟩ : ByteArray).toList) (vJ7 (name1.toList == (⟨#[83]⟩ : ByteArray).toList) w) (vJ7 (name1.toList == (⟨#[115]⟩ : ByteArray).toList) w)
def pl97 : Plan := (.seq (.reg .seq) (.seq (.seq (.reg .seq) (.block (.join [(4, (.one .bool))] [3] (.seq (.reg .seq) (.cond .leaf (.reg .seq))) (.cond (.seq (.reg .seq) .leaf) (.join [(7, (.one .bool))] [3] (.seq (.reg .seq) (.cond .leaf (.reg .seq))) (.cond (.seq (.reg .seq) .leaf) (.seq (.reg .seq) (.cond (.seq (.reg .seq) .leaf) (.seq (.seq (.reg .seq) (.cond .leaf (.reg .seq))) (.cond (.seq (.reg .seq) .leaf) (.seq (.seq (.reg .seq) (.cond .leaf (.reg .seq))) (.cond (.seq (.reg .seq) .leaf) .leaf)))))))))))) (.seq (.reg .seq) .leaf)))
set_option maxRecDepth 100000 in
theorem T97 (name1 : ByteArray) (w : World) (R : Int → World → Prop) (h : S97 name1 w R) : C97 name1 w R := by
  have e : fnT Tryd.prog ⟨FF, MAY, (fun _ _ => False)⟩ pl97 Tryd.f97 [.string name1] w [(.one (.int .i64))] (fun s w => R s w) = S97 name1 w R := by kernel_rfl
  exact (fn_calls okF okM Tryd.func97 (by kernel_rfl) (by kernel_rfl) (e.mpr h)).mono fun _ _ ⟨s, he, hR⟩ => ⟨s, he, hR⟩

def S36J1 (w : World) (vw5 : World) (vw6 : World) (vw7 : World) (r54 : Int) (R : (Slc × Bool) → (TyA75) → Bool → Int → World → Prop) (s77 : Slc) (vw78 : World) : Prop :=
  Ld vw78 ((⟨w.heap.size, 0, none⟩ : Addr).add 1) Value.bool fun (x80 : Bool) =>
  Br x80 (Br (((s77.len : Nat) : Int) == 0) (St vw78 (⟨vw6.heap.size, 0, none⟩ : Addr) (Slc.v ((⟨none, 0, 0⟩ : Slc))) fun vw87 =>
      St vw87 ((⟨vw6.heap.size, 0, none⟩ : Addr).add 1) (.bool false) fun vw88 =>
      StT (⟨vw7.heap.size, 0, none⟩ : Addr) 0 LiA75 ((0, (⟨none, 0, 0⟩ : Slc), 0, 0, 0, 0, 0, 0, 0, 0, 0, 0) : TyA75) vw88 fun vw89 =>
      Ld vw89 (⟨vw6.heap.size, 0, none⟩ : Addr) Slc.v fun (x90 : Slc) =>
      Ld vw89 ((⟨vw6.heap.size, 0, none⟩ : Addr).add 1) Value.bool fun (x91 : Bool) =>
      LdT vw89 (⟨vw7.heap.size, 0, none⟩ : Addr) 0 LiA75 fun (x92 : TyA75) =>
      R (x90, x91) x92 false 0 vw89) (Br ((IntKind.i64.wrap (r54 + 8)) == 0) (St vw78 (⟨vw6.heap.size, 0, none⟩ : Addr) (Slc.v ((⟨none, 0, 0⟩ : Slc))) fun vw93 =>
        St vw93 ((⟨vw6.heap.size, 0, none⟩ : Addr).add 1) (.bool false) fun vw94 =>
        StT (⟨vw7.heap.size, 0, none⟩ : Addr) 0 LiA75 ((0, (⟨none, 0, 0⟩ : Slc), 0, 0, 0, 0, 0, 0, 0, 0, 0, 0) : TyA75) vw94 fun vw95 =>
        Ld vw95 (⟨vw6.heap.size, 0, none⟩ : Addr) Slc.v fun (x96 : Slc) =>
        Ld vw95 ((⟨vw6.heap.size, 0, none⟩ : Addr).add 1) Value.bool fun (x97 : Bool) =>
        LdT vw95 (⟨vw7.heap.size, 0, none⟩ : Addr) 0 LiA75 fun (x98 : TyA75) =>
        R (x96, x97) x98 false 0 vw95) (∃ vS99 : World → Prop, vS99 vw78.drew ∧ LdS vS99 ((⟨vw5.heap.size, 0, none⟩ : Addr).add 12) (Value.int .i64) fun (x100 : Int) =>
        LdS vS99 (((⟨vw5.heap.size, 0, none⟩ : Addr).add 12).add 1) (Value.int .i64) fun (x101 : Int) =>
        LdS vS99 (((⟨vw5.heap.size, 0, none⟩ : Addr).add 12).add 2) (Value.int .i64) fun (x102 : Int) =>
        LdS vS99 (((⟨vw5.heap.size, 0, none⟩ : Addr).add 12).add 3) (Value.int .i64) fun (x103 : Int) =>
        LdS vS99 (((⟨vw5.heap.size, 0, none⟩ : Addr).add 12).add 4) (Value.int .i64) fun (x104 : Int) =>
        LdS vS99 ((⟨vw5.heap.size, 0, none⟩ : Addr).add 17) (Value.int .i64) fun (x105 : Int) =>
        LdS vS99 (((⟨vw5.heap.size, 0, none⟩ : Addr).add 17).add 1) (Value.int .i64) fun (x106 : Int) =>
        LdS vS99 (((⟨vw5.heap.size, 0, none⟩ : Addr).add 17).add 2) (Value.int .i64) fun (x107 : Int) =>
        LdS vS99 (((⟨vw5.heap.size, 0, none⟩ : Addr).add 17).add 3) (Value.int .i64) fun (x108 : Int) =>
        LdS vS99 (((⟨vw5.heap.size, 0, none⟩ : Addr).add 17).add 4) (Value.int .i64) fun (x109 : Int) =>
        (vS99 vw78.drew ∧ (St vw78.drew (⟨vw6.heap.size, 0, none⟩ : Addr) (Slc.v ((⟨none, 0, 0⟩ : Slc))) fun vw110 =>
            St vw110 ((⟨vw6.heap.size, 0, none⟩ : Addr).add 1) (.bool false) fun vw111 =>
            StT (⟨vw7.heap.size, 0, none⟩ : Addr) 0 LiA75 ((IntKind.i64.wrap (r54 + 8), s77, x100, x101, x102, x103, x104, x105, x106, x107, x108, x109) : TyA75) vw111 fun vw112 =>
            Ld vw112 (⟨vw6.heap.size, 0, none⟩ : Addr) Slc.v fun (x113 : Slc) =>
            Ld vw112 ((⟨vw6.heap.size, 0, none⟩ : Addr).add 1) Value.bool fun (x114 : Bool) =>
            LdT vw112 (⟨vw7.heap.size, 0, none⟩ : Addr) 0 LiA75 fun (x115 : TyA75) =>
            R (x113, x114) x115 true 0 vw112) ∧
          (St vw78.drew (⟨vw6.heap.size, 0, none⟩ : Addr) (Slc.v ((⟨none, 0, 0⟩ : Slc))) fun vw116 =>
            St vw116 ((⟨vw6.heap.size, 0, none⟩ : Addr).add 1) (.bool false) fun vw117 =>
            vS99 vw117 ∧ StT (⟨vw7.heap.size, 0, none⟩ : Addr) 0 LiA75 ((IntKind.i64.wrap (r54 + 8), s77, x100, x101, x102, x103, x104, x105, x106, x107, x108, x109) : TyA75) vw117 fun vw118 =>
            Ld vw118 (⟨vw6.heap.size, 0, none⟩ : Addr) Slc.v fun (x119 : Slc) =>
            Ld vw118 ((⟨vw6.heap.size, 0, none⟩ : Addr).add 1) Value.bool fun (x120 : Bool) =>
            LdT vw118 (⟨vw7.heap.size, 0, none⟩ : Addr) 0 LiA75 fun (x121 : TyA75) =>
            R (x119, x120) x121 true 0 vw118)) ∧
        (St vw78.drew (⟨vw6.heap.size, 0, none⟩ : Addr) (Slc.v ((⟨none, 0, 0⟩ : Slc))) fun vw122 =>
          St vw122 ((⟨vw6.heap.size, 0, none⟩ : Addr).add 1) (.bool false) fun vw123 =>
          StT (⟨vw7.heap.size, 0, none⟩ : Addr) 0 LiA75 ((IntKind.i64.wrap (r54 + 8), s77, x100, x101, x102, x103, x104, x105, x106, x107, x108, x109) : TyA75) vw123 fun vw124 =>
          Ld vw124 (⟨vw6.heap.size, 0, none⟩ : Addr) Slc.v fun (x125 : Slc) =>
          Ld vw124 ((⟨vw6.heap.size, 0, none⟩ : Addr).add 1) Value.bool fun (x126 : Bool) =>
          LdT vw124 (⟨vw7.heap.size, 0, none⟩ : Addr) 0 LiA75 fun (x127 : TyA75) =>
          R (x125, x126) x127 true 0 vw124)))) (Br (((s77.len : Nat) : Int) == 0) (St vw78 (⟨vw6.heap.size, 0, none⟩ : Addr) (Slc.v ((⟨none, 0, 0⟩ : Slc))) fun vw128 =>
      St vw128 ((⟨vw6.heap.size, 0, none⟩ : Addr).add 1) (.bool false) fun vw129 =>
      StT (⟨vw7.heap.size, 0, none⟩ : Addr) 0 LiA75 ((0, (⟨none, 0, 0⟩ : Slc), 0, 0, 0, 0, 0, 0, 0, 0, 0, 0) : TyA75) vw129 fun vw130 =>
      Ld vw130 (⟨vw6.heap.size, 0, none⟩ : Addr) Slc.v fun (x131 : Slc) =>
      Ld vw130 ((⟨vw6.heap.size, 0, none⟩ : Addr).add 1) Value.bool fun (x132 : Bool) =>
      LdT vw130 (⟨vw7.heap.size, 0, none⟩ : Addr) 0 LiA75 fun (x133 : TyA75) =>
      R (x131, x132) x133 false 0 vw130) (Br (r54 == 0) (St vw78 (⟨vw6.heap.size, 0, none⟩ : Addr) (Slc.v ((⟨none, 0, 0⟩ : Slc))) fun vw134 =>
        St vw134 ((⟨vw6.heap.size, 0, none⟩ : Addr).add 1) (.bool false) fun vw135 =>
        StT (⟨vw7.heap.size, 0, none⟩ : Addr) 0 LiA75 ((0, (⟨none, 0, 0⟩ : Slc), 0, 0, 0, 0, 0, 0, 0, 0, 0, 0) : TyA75) vw135 fun vw136 =>
        Ld vw136 (⟨vw6.heap.size, 0, none⟩ : Addr) Slc.v fun (x137 : Slc) =>
        Ld vw136 ((⟨vw6.heap.size, 0, none⟩ : Addr).add 1) Value.bool fun (x138 : Bool) =>
        LdT vw136 (⟨vw7.heap.size, 0, none⟩ : Addr) 0 LiA75 fun (x139 : TyA75) =>
        R (x137, x138) x139 false 0 vw136) (∃ vS140 : World → Prop, vS140 vw78.drew ∧ LdS vS140 ((⟨vw5.heap.size, 0, none⟩ : Addr).add 12) (Value.int .i64) fun (x141 : Int) =>
        LdS vS140 (((⟨vw5.heap.size, 0, none⟩ : Addr).add 12).add 1) (Value.int .i64) fun (x142 : Int) =>
        LdS vS140 (((⟨vw5.heap.size, 0, none⟩ : Addr).add 12).add 2) (Value.int .i64) fun (x143 : Int) =>
        LdS vS140 (((⟨vw5.heap.size, 0, none⟩ : Addr).add 12).add 3) (Value.int .i64) fun (x144 : Int) =>
        LdS vS140 (((⟨vw5.heap.size, 0, none⟩ : Addr).add 12).add 4) (Value.int .i64) fun (x145 : Int) =>
        LdS vS140 ((⟨vw5.heap.size, 0, none⟩ : Addr).add 17) (Value.int .i64) fun (x146 : Int) =>
        LdS vS140 (((⟨vw5.heap.size, 0, none⟩ : Addr).add 17).add 1) (Value.int .i64) fun (x147 : Int) =>
        LdS vS140 (((⟨vw5.heap.size, 0, none⟩ : Addr).add 17).add 2) (Value.int .i64) fun (x148 : Int) =>
        LdS vS140 (((⟨vw5.heap.size, 0, none⟩ : Addr).add 17).add 3) (Value.int .i64) fun (x149 : Int) =>
        LdS vS140 (((⟨vw5.heap.size, 0, none⟩ : Addr).add 17).add 4) (Value.int .i64) fun (x150 : Int) =>
        (vS140 vw78.drew ∧ (St vw78.drew (⟨vw6.heap.size, 0, none⟩ : Addr) (Slc.v ((⟨none, 0, 0⟩ : Slc))) fun vw151 =>
            St vw151 ((⟨vw6.heap.size, 0, none⟩ : Addr).add 1) (.bool false) fun vw152 =>
            StT (⟨vw7.heap.size, 0, none⟩ : Addr) 0 LiA75 ((r54, s77, x141, x142, x143, x144, x145, x146, x147, x148, x149, x150) : TyA75) vw152 fun vw153 =>
            Ld vw153 (⟨vw6.heap.size, 0, none⟩ : Addr) Slc.v fun (x154 : Slc) =>
            Ld vw153 ((⟨vw6.heap.size, 0, none⟩ : Addr).add 1) Value.bool fun (x155 : Bool) =>
            LdT vw153 (⟨vw7.heap.size, 0, none⟩ : Addr) 0 LiA75 fun (x156 : TyA75) =>
            R (x154, x155) x156 true 0 vw153) ∧
          (St vw78.drew (⟨vw6.heap.size, 0, none⟩ : Addr) (Slc.v ((⟨none, 0, 0⟩ : Slc))) fun vw157 =>
            St vw157 ((⟨vw6.heap.size, 0, none⟩ : Addr).add 1) (.bool false) fun vw158 =>
            vS140 vw158 ∧ StT (⟨vw7.heap.size, 0, none⟩ : Addr) 0 LiA75 ((r54, s77, x141, x142, x143, x144, x145, x146, x147, x148, x149, x150) : TyA75) vw158 fun vw159 =>
            Ld vw159 (⟨vw6.heap.size, 0, none⟩ : Addr) Slc.v fun (x160 : Slc) =>
            Ld vw159 ((⟨vw6.heap.size, 0, none⟩ : Addr).add 1) Value.bool fun (x161 : Bool) =>
            LdT vw159 (⟨vw7.heap.size, 0, none⟩ : Addr) 0 LiA75 fun (x162 : TyA75) =>
            R (x160, x161) x162 true 0 vw159)) ∧
        (St vw78.drew (⟨vw6.heap.size, 0, none⟩ : Addr) (Slc.v ((⟨none, 0, 0⟩ : Slc))) fun vw163 =>
          St vw163 ((⟨vw6.heap.size, 0, none⟩ : Addr).add 1) (.bool false) fun vw164 =>
          StT (⟨vw7.heap.size, 0, none⟩ : Addr) 0 LiA75 ((r54, s77, x141, x142, x143, x144, x145, x146, x147, x148, x149, x150) : TyA75) vw164 fun vw165 =>
          Ld vw165 (⟨vw6.heap.size, 0, none⟩ : Addr) Slc.v fun (x166 : Slc) =>
          Ld vw165 ((⟨vw6.heap.size, 0, none⟩ : Addr).add 1) Value.bool fun (x167 : Bool) =>
          LdT vw165 (⟨vw7.heap.size, 0, none⟩ : Addr) 0 LiA75 fun (x168 : TyA75) =>
          R (x166, x167) x168 true 0 vw165))))
/-- foliant/foliantref45.Paint -/
def S36 (x1 : Slc × Bool) (o2 : ByteArray × Slc × ByteArray) (g3 : TyA29) (w : World) (R : (Slc × Bool) → (TyA75) → Bool → Int → World → Prop) : Prop :=
  Nw w (.cells #[Slc.v x1.1, .bool x1.2] 86) fun vw4 =>
  Nw vw4 (.cells #[.string o2.1, Slc.v o2.2.1, .string o2.2.2] 63) fun vw5 =>
  Nw vw5 (.cells (Sig.cells LiA29 g3).toArray 30) fun vw6 =>
  Nw vw6 (.cells #[Slc.v ((⟨none, 0, 0⟩ : Slc)), .bool false] 86) fun vw7 =>
  Nw vw7 (.cells #[.int .i64 0, Slc.v ((⟨none, 0, 0⟩ : Slc)), .int .i64 0, .int .i64 0, .int .i64 0, .int .i64 0, .int .i64 0, .int .i64 0, .int .i64 0, .int .i64 0, .int .i64 0, .int .i64 0] 76) fun vw8 =>
  Ld vw8 (⟨vw4.heap.size, 0, none⟩ : Addr) Value.string fun (x17 : ByteArray) =>
  C35 x17 vw8 fun r18 vw19 =>
    Br (!r18) (Ld vw19 (⟨w.heap.size, 0, none⟩ : Addr) Slc.v fun (x20 : Slc) =>
      Ld vw19 ((⟨w.heap.size, 0, none⟩ : Addr).add 1) Value.bool fun (x21 : Bool) =>
      St vw19 (⟨vw6.heap.size, 0, none⟩ : Addr) (Slc.v x20) fun vw22 =>
      St vw22 ((⟨vw6.heap.size, 0, none⟩ : Addr).add 1) (.bool x21) fun vw23 =>
      StT (⟨vw7.heap.size, 0, none⟩ : Addr) 0 LiA75 ((0, (⟨none, 0, 0⟩ : Slc), 0, 0, 0, 0, 0, 0, 0, 0, 0, 0) : TyA75) vw23 fun vw24 =>
      Ld vw24 (⟨vw6.heap.size, 0, none⟩ : Addr) Slc.v fun (x25 : Slc) =>
      Ld vw24 ((⟨vw6.heap.size, 0, none⟩ : Addr).add 1) Value.bool fun (x26 : Bool) =>
      LdT vw24 (⟨vw7.heap.size, 0, none⟩ : Addr) 0 LiA75 fun (x27 : TyA75) =>
      R (x25, x26) x27 false 8 vw24) (Ld vw19 (⟨vw4.heap.size, 0, none⟩ : Addr) Value.string fun (x38 : ByteArray) =>
      Ld vw19 ((⟨vw4.heap.size, 0, none⟩ : Addr).add 1) Slc.v fun (x39 : Slc) =>
      Ld vw19 ((⟨vw4.heap.size, 0, none⟩ : Addr).add 2) Value.string fun (x40 : ByteArray) =>
      C43 (x38, x39, x40) vw19 fun r41 vw42 =>
        Br (r41 != 0) (Ld vw42 (⟨w.heap.size, 0, none⟩ : Addr) Slc.v fun (x43 : Slc) =>
          Ld vw42 ((⟨w.heap.size, 0, none⟩ : Addr).add 1) Value.bool fun (x44 : Bool) =>
          St vw42 (⟨vw6.heap.size, 0, none⟩ : Addr) (Slc.v x43) fun vw45 =>
          St vw45 ((⟨vw6.heap.size, 0, none⟩ : Addr).add 1) (.bool x44) fun vw46 =>
          StT (⟨vw7.heap.size, 0, none⟩ : Addr) 0 LiA75 ((0, (⟨none, 0, 0⟩ : Slc), 0, 0, 0, 0, 0, 0, 0, 0, 0, 0) : TyA75) vw46 fun vw47 =>
          Ld vw47 (⟨vw6.heap.size, 0, none⟩ : Addr) Slc.v fun (x48 : Slc) =>
          Ld vw47 ((⟨vw6.heap.size, 0, none⟩ : Addr).add 1) Value.bool fun (x49 : Bool) =>
          LdT vw47 (⟨vw7.heap.size, 0, none⟩ : Addr) 0 LiA75 fun (x50 : TyA75) =>
          R (x48, x49) x50 false r41 vw47) (∃ vS51 : World → Prop, vS51 vw42.drew ∧ LdS vS51 (⟨w.heap.size, 0, none⟩ : Addr) Slc.v fun (x52 : Slc) =>
          LdS vS51 (⟨vw4.heap.size, 0, none⟩ : Addr) Value.string fun (x53 : ByteArray) =>
          C97 x53 vw42.drew fun r54 vw55 =>
            vS51 vw55 ∧ Join (S36J1 w vw5 vw6 vw7 r54 R) fun (vJ169 : Slc → World → Prop) =>
              Br (decide (((x52.len : Nat) : Int) > 0)) (Ld vw55 (⟨vw4.heap.size, 0, none⟩ : Addr) Value.string fun (x170 : ByteArray) =>
                Br (x170.toList == (⟨#[115]⟩ : ByteArray).toList) (Nw vw55 (.cells #[] 67) fun vw171 =>
                  Rn Tryd.prog (Builtin.append_ #[64, 64] 64 #[Slc.v ((⟨some ⟨vw55.heap.size, 0, none⟩, 0, 0⟩ : Slc)), Slc.v x52]) vw171 Slc.v fun (x172 : Slc) vw173 =>
                  Nw vw173 (.cells #[.int .i64 4, .int .i64 0, .int .i64 0, .int .i64 0, .int .i64 0, .int .i64 0, .int .i64 0] 67) fun vw174 =>
                  Rn Tryd.prog (Builtin.append_ #[64, 64] 64 #[Slc.v x172, Slc.v ((⟨some ⟨vw173.heap.size, 0, none⟩, 1, 1⟩ : Slc))]) vw174 Slc.v fun (x175 : Slc) vw176 =>
                  vJ169 x175 vw176) (Ld vw55 (⟨vw4.heap.size, 0, none⟩ : Addr) Value.string fun (x177 : ByteArray) =>
                  Br (x177.toList == (⟨#[98]⟩ : ByteArray).toList) (Nw vw55 (.cells #[] 67) fun vw178 =>
                    Rn Tryd.prog (Builtin.append_ #[64, 64] 64 #[Slc.v ((⟨some ⟨vw55.heap.size, 0, none⟩, 0, 0⟩ : Slc)), Slc.v x52]) vw178 Slc.v fun (x179 : Slc) vw180 =>
                    Nw vw180 (.cells #[.int .i64 4, .int .i64 0, .int .i64 0, .int .i64 0, .int .i64 0, .int .i64 0, .int .i64 0] 67) fun vw181 =>
                    Rn Tryd.prog (Builtin.append_ #[64, 64] 64 #[Slc.v x179, Slc.v ((⟨some ⟨vw180.heap.size, 0, none⟩, 1, 1⟩ : Slc))]) vw181 Slc.v fun (x182 : Slc) vw183 =>
                    vJ169 x182 vw183) (Ld vw55 (⟨vw4.heap.size, 0, none⟩ : Addr) Value.string fun (x184 : ByteArray) =>
                    Br (x184.toList == (⟨#[98, 42]⟩ : ByteArray).toList) (Nw vw55 (.cells #[] 67) fun vw185 =>
                      Rn Tryd.prog (Builtin.append_ #[64, 64] 64 #[Slc.v ((⟨some ⟨vw55.heap.size, 0, none⟩, 0, 0⟩ : Slc)), Slc.v x52]) vw185 Slc.v fun (x186 : Slc) vw187 =>
                      Nw vw187 (.cells #[.int .i64 4, .int .i64 0, .int .i64 0, .int .i64 0, .int .i64 0, .int .i64 0, .int .i64 0] 67) fun vw188 =>
                      Rn Tryd.prog (Builtin.append_ #[64, 64] 64 #[Slc.v x186, Slc.v ((⟨some ⟨vw187.heap.size, 0, none⟩, 1, 1⟩ : Slc))]) vw188 Slc.v fun (x189 : Slc) vw190 =>
                      vJ169 x189 vw190) (vJ169 x52 vw55)))) (vJ169 x52 vw55)))
def pl36 : Plan := (.seq (.reg .seq) (.seq (.seq (.reg .seq) (.cond (.seq (.reg .seq) .leaf) .leaf)) (.seq (.seq (.reg .seq) (.seq (.reg .seq) (.cond (.seq (.reg .seq) .leaf) .leaf))) (.seq (.reg (.held [] (.take 0 (.take 1 (.take 2 (.take 3 (.eff 4 none (.take 5 (.take 6 .done))))))))) (.join [(11, (.one .slc))] [3, 5, 6, 7, 12] (.seq (.reg .seq) (.cond (.reg .seq) .leaf)) (.seq (.seq (.reg .seq) (.cond (.reg .seq) .leaf)) (.seq (.seq (.reg .seq) (.cond (.seq (.reg .seq) .leaf) .leaf)) (.seq (.reg (.held [7] (.take 1 (.take 2 (.take 3 (.take 4 (.take 5 (.take 6 (.effs 0 none (.effs 7 (some [8]) (.eff 8 (some [9]) (.eff 9 (some []) (.take 10 (.take 11 .done)))) (.eff 8 none (.eff 7 (some [9]) (.eff 9 (some []) (.take 10 (.take 11 .done)))))) (.eff 7 (some [0]) (.eff 0 (some [8]) (.eff 8 (some [9]) (.eff 9 (some []) (.take 10 (.take 11 .done))))))))))))))) .leaf))))))))
set_option maxRecDepth 100000 in
theorem T36 (x1 : Slc × Bool) (o2 : ByteArray × Slc × ByteArray) (g3 : TyA29) (w : World) (R : (Slc × Bool) → (TyA75) → Bool → Int → World → Prop) (h : S36 x1 o2 g3 w R) : C36 (x1.1, x1.2) (o2.1, o2.2.1, o2.2.2) g3 w R := by
  have e : fnT Tryd.prog ⟨FF, MAY, (fun _ _ => False)⟩ pl36 Tryd.f36 [.agg #[Slc.v x1.1, .bool x1.2], .agg #[.string o2.1, Slc.v o2.2.1, .string o2.2.2], .agg (Sig.cells LiA29 g3).toArray] w [(.agg [.slc, .bool]), (.agg [(.int .i64), .slc, (.int .i64), (.int .i64), (.int .i64), (.int .i64), (.int .i64), (.int .i64), (.int .i64), (.int .i64), (.int .i64), (.int .i64)]), (.one .bool), (.one (.int .i64))] (fun s w => R s.1 s.2.1 s.2.2.1 s.2.2.2 w) = S36 x1 o2 g3 w R := by kernel_rfl
  exact (fn_calls okF okM Tryd.func36 (by kernel_rfl) (by kernel_rfl) (e.mpr h)).mono fun _ _ ⟨s, he, hR⟩ => ⟨s.1, s.2.1, s.2.2.1, s.2.2.2, he, hR⟩

def S40L1 (a1 : Slc) (b2 : Slc) (R : Bool → World → Prop) (I5 : Int → World → Prop) (s3 : Int) (vw4 : World) : Prop :=
  Br (decide (s3 < ((a1.len : Nat) : Int))) (0 ≤ s3 ∧ s3 < (a1.len : Nat) ∧ Nn a1.p fun a6 =>
    Ld vw4.drew (a6.add ((s3).toNat * 7)) (Value.int .i64) fun (x7 : Int) =>
    Ld vw4.drew ((a6.add ((s3).toNat * 7)).add 1) (Value.int .i64) fun (x8 : Int) =>
    Ld vw4.drew ((a6.add ((s3).toNat * 7)).add 2) (Value.int .i64) fun (x9 : Int) =>
    Ld vw4.drew ((a6.add ((s3).toNat * 7)).add 3) (Value.int .i64) fun (x10 : Int) =>
    Ld vw4.drew ((a6.add ((s3).toNat * 7)).add 4) (Value.int .i64) fun (x11 : Int) =>
    Ld vw4.drew ((a6.add ((s3).toNat * 7)).add 5) (Value.int .i64) fun (x12 : Int) =>
    Ld vw4.drew ((a6.add ((s3).toNat * 7)).add 6) (Value.int .i64) fun (x13 : Int) =>
    0 ≤ s3 ∧ s3 < (b2.len : Nat) ∧ Nn b2.p fun a14 =>
    Ld vw4.drew (a14.add ((s3).toNat * 7)) (Value.int .i64) fun (x15 : Int) =>
    Ld vw4.drew ((a14.add ((s3).toNat * 7)).add 1) (Value.int .i64) fun (x16 : Int) =>
    Ld vw4.drew ((a14.add ((s3).toNat * 7)).add 2) (Value.int .i64) fun (x17 : Int) =>
    Ld vw4.drew ((a14.add ((s3).toNat * 7)).add 3) (Value.int .i64) fun (x18 : Int) =>
    Ld vw4.drew ((a14.add ((s3).toNat * 7)).add 4) (Value.int .i64) fun (x19 : Int) =>
    Ld vw4.drew ((a14.add ((s3).toNat * 7)).add 5) (Value.int .i64) fun (x20 : Int) =>
    Ld vw4.drew ((a14.add ((s3).toNat * 7)).add 6) (Value.int .i64) fun (x21 : Int) =>
    Lt (!((x7 == x15) && (((x8 == x16) && ((x9 == x17) && true)) && (((x10 == x18) && ((x11 == x19) && true)) && (((x12 == x20) && ((x13 == x21) && true)) && true))))) fun (x22 : Bool) =>
    Br x22 (R false vw4.drew) (I5 (IntKind.i64.wrap (s3 + 1)) vw4.drew)) (R true vw4)
/-- foliant/foliantref45.Same -/
def S40 (a1 : Slc) (b2 : Slc) (w : World) (R : Bool → World → Prop) : Prop :=
  Br (((a1.len : Nat) : Int) != ((b2.len : Nat) : Int)) (R false w) (Lp (σ := Int) (S40L1 a1 b2 R) 0 w)
def pl40 : Plan := (.seq (.reg .seq) (.seq (.seq (.reg .seq) (.cond (.seq (.reg .seq) .leaf) .leaf)) (.seq (.seq (.reg .seq) (.block (.loop [(13, (.one (.int .i64)))] [0, 1, 12] (.seq (.reg .seq) (.seq (.cond .leaf .leaf) (.seq (.block (.seq (.reg .seq) (.seq (.reg .still) (.cond (.seq (.reg .seq) .leaf) .leaf)))) (.reg .seq))))))) (.seq (.reg .seq) .leaf))))
set_option maxRecDepth 100000 in
theorem T40 (a1 : Slc) (b2 : Slc) (w : World) (R : Bool → World → Prop) (h : S40 a1 b2 w R) : C40 a1 b2 w R := by
  have e : fnT Tryd.prog ⟨FF, MAY, (fun _ _ => False)⟩ pl40 Tryd.f40 [Slc.v a1, Slc.v b2] w [(.one .bool)] (fun s w => R s w) = S40 a1 b2 w R := by kernel_rfl
  exact (fn_calls okF okM Tryd.func40 (by kernel_rfl) (by kernel_rfl) (e.mpr h)).mono fun _ _ ⟨s, he, hR⟩ => ⟨s, he, hR⟩

/-- foliant/foliantref45.SamePaint -/
def S37 (a1 : TyA75) (b2 : TyA75) (w : World) (R : Bool → World → Prop) : Prop :=
  Nw w (.cells (Sig.cells LiA75 a1).toArray 76) fun vw3 =>
  Nw vw3 (.cells (Sig.cells LiA75 b2).toArray 76) fun vw4 =>
  Ld vw4 (⟨w.heap.size, 0, none⟩ : Addr) (Value.int .i64) fun (x5 : Int) =>
  Ld vw4 (⟨vw3.heap.size, 0, none⟩ : Addr) (Value.int .i64) fun (x6 : Int) =>
  Br (x5 == x6) (Ld vw4 ((⟨w.heap.size, 0, none⟩ : Addr).add 1) Slc.v fun (x7 : Slc) =>
    Ld vw4 ((⟨vw3.heap.size, 0, none⟩ : Addr).add 1) Slc.v fun (x8 : Slc) =>
    C40 x7 x8 vw4 fun r9 vw10 =>
      Br r9 (Ld vw10 ((⟨w.heap.size, 0, none⟩ : Addr).add 2) (Value.int .i64) fun (x11 : Int) =>
        Ld vw10 (((⟨w.heap.size, 0, none⟩ : Addr).add 2).add 1) (Value.int .i64) fun (x12 : Int) =>
        Ld vw10 (((⟨w.heap.size, 0, none⟩ : Addr).add 2).add 2) (Value.int .i64) fun (x13 : Int) =>
        Ld vw10 (((⟨w.heap.size, 0, none⟩ : Addr).add 2).add 3) (Value.int .i64) fun (x14 : Int) =>
        Ld vw10 (((⟨w.heap.size, 0, none⟩ : Addr).add 2).add 4) (Value.int .i64) fun (x15 : Int) =>
        Ld vw10 ((⟨vw3.heap.size, 0, none⟩ : Addr).add 2) (Value.int .i64) fun (x16 : Int) =>
        Ld vw10 (((⟨vw3.heap.size, 0, none⟩ : Addr).add 2).add 1) (Value.int .i64) fun (x17 : Int) =>
        Ld vw10 (((⟨vw3.heap.size, 0, none⟩ : Addr).add 2).add 2) (Value.int .i64) fun (x18 : Int) =>
        Ld vw10 (((⟨vw3.heap.size, 0, none⟩ : Addr).add 2).add 3) (Value.int .i64) fun (x19 : Int) =>
        Ld vw10 (((⟨vw3.heap.size, 0, none⟩ : Addr).add 2).add 4) (Value.int .i64) fun (x20 : Int) =>
        Lt (((x11 == x16) && ((x12 == x17) && ((x13 == x18) && ((x14 == x19) && ((x15 == x20) && true)))))) fun (x21 : Bool) =>
        Br x21 (Ld vw10 ((⟨w.heap.size, 0, none⟩ : Addr).add 7) (Value.int .i64) fun (x22 : Int) =>
          Ld vw10 (((⟨w.heap.size, 0, none⟩ : Addr).add 7).add 1) (Value.int .i64) fun (x23 : Int) =>
          Ld vw10 (((⟨w.heap.size, 0, none⟩ : Addr).add 7).add 2) (Value.int .i64) fun (x24 : Int) =>
          Ld vw10 (((⟨w.heap.size, 0, none⟩ : Addr).add 7).add 3) (Value.int .i64) fun (x25 : Int) =>
          Ld vw10 (((⟨w.heap.size, 0, none⟩ : Addr).add 7).add 4) (Value.int .i64) fun (x26 : Int) =>
          Ld vw10 ((⟨vw3.heap.size, 0, none⟩ : Addr).add 7) (Value.int .i64) fun (x27 : Int) =>
          Ld vw10 (((⟨vw3.heap.size, 0, none⟩ : Addr).add 7).add 1) (Value.int .i64) fun (x28 : Int) =>
          Ld vw10 (((⟨vw3.heap.size, 0, none⟩ : Addr).add 7).add 2) (Value.int .i64) fun (x29 : Int) =>
          Ld vw10 (((⟨vw3.heap.size, 0, none⟩ : Addr).add 7).add 3) (Value.int .i64) fun (x30 : Int) =>
          Ld vw10 (((⟨vw3.heap.size, 0, none⟩ : Addr).add 7).add 4) (Value.int .i64) fun (x31 : Int) =>
          Lt (((x22 == x27) && ((x23 == x28) && ((x24 == x29) && ((x25 == x30) && ((x26 == x31) && true)))))) fun (x32 : Bool) =>
          R x32 vw10) (R false vw10)) (R false vw10)) (R false vw4)
def pl37 : Plan := (.seq (.reg .seq) (.seq (.reg .seq) .leaf))
set_option maxRecDepth 100000 in
theorem T37 (a1 : TyA75) (b2 : TyA75) (w : World) (R : Bool → World → Prop) (h : S37 a1 b2 w R) : C37 a1 b2 w R := by
  have e : fnT Tryd.prog ⟨FF, MAY, (fun _ _ => False)⟩ pl37 Tryd.f37 [.agg (Sig.cells LiA75 a1).toArray, .agg (Sig.cells LiA75 b2).toArray] w [(.one .bool)] (fun s w => R s w) = S37 a1 b2 w R := by kernel_rfl
  exact (fn_calls okF okM Tryd.func37 (by kernel_rfl) (by kernel_rfl) (e.mpr h)).mono fun _ _ ⟨s, he, hR⟩ => ⟨s, he, hR⟩

/-- foliant/foliantref45.builds -/
def S98 (name1 : ByteArray) (w : World) (R : Bool → World → Prop) : Prop :=
  Br (name1.toList == (⟨#[109]⟩ : ByteArray).toList) (Br (name1.toList == (⟨#[109]⟩ : ByteArray).toList) (R true w) (R false w)) (Br (name1.toList == (⟨#[108]⟩ : ByteArray).toList) (Br (name1.toList == (⟨#[108]⟩ : ByteArray).toList) (R true w) (R false w)) (Br (name1.toList == (⟨#[99]⟩ : ByteArray).toList) (Br (name1.toList == (⟨#[99]⟩ : ByteArray).toList) (R true w) (R false w)) (Br (name1.toList == (⟨#[118]⟩ : ByteArray).toList) (Br (name1.toList == (⟨#[118]⟩ : ByteArray).toList) (R true w) (R false w)) (Br (name1.toList == (⟨#[121]⟩ : ByteArray).toList) (Br (name1.toList == (⟨#[121]⟩ : ByteArray).toList) (R true w) (R false w)) (Br (name1.toList == (⟨#[104]⟩ : ByteArray).toList) (Br (name1.toList == (⟨#[104]⟩ : ByteArray).toList) (R true w) (R false w)) (Br (name1.toList == (⟨#[114, 101]⟩ : ByteArray).toList) (Br (name1.toList == (⟨#[114, 101]⟩ : ByteArray).toList) (R true w) (R false w)) (Br (name1.toList == (⟨#[87]⟩ : ByteArray).toList) (Br (name1.toList == (⟨#[87]⟩ : ByteArray).toList) (R true w) (R false w)) (Br (name1.toList == (⟨#[87, 42]⟩ : ByteArray).toList) (R true w) (R false w)))))))))
def pl98 : Plan := (.seq (.reg .seq) (.seq (.seq (.reg .seq) (.block (.seq (.seq (.reg .seq) (.cond .leaf (.seq (.reg .seq) (.cond .leaf (.seq (.reg .seq) (.cond .leaf (.seq (.reg .seq) (.cond .leaf (.seq (.reg .seq) (.cond .leaf (.seq (.reg .seq) (.cond .leaf (.seq (.reg .seq) (.cond .leaf (.seq (.reg .seq) (.cond .leaf (.reg .seq))))))))))))))))) (.cond (.seq (.reg .seq) .leaf) .leaf)))) (.seq (.reg .seq) .leaf)))
set_option maxRecDepth 100000 in
theorem T98 (name1 : ByteArray) (w : World) (R : Bool → World → Prop) (h : S98 name1 w R) : C98 name1 w R := by
  have e : fnT Tryd.prog ⟨FF, MAY, (fun _ _ => False)⟩ pl98 Tryd.f98 [.string name1] w [(.one .bool)] (fun s w => R s w) = S98 name1 w R := by kernel_rfl
  exact (fn_calls okF okM Tryd.func98 (by kernel_rfl) (by kernel_rfl) (e.mpr h)).mono fun _ _ ⟨s, he, hR⟩ => ⟨s, he, hR⟩

def S99L1 (w : World) (R : Slc → Int → World → Prop) (I5 : (Slc × Int) → World → Prop) (s3 : Slc × Int) (vw4 : World) : Prop :=
  Ld vw4 ((⟨w.heap.size, 0, none⟩ : Addr).add 1) Slc.v fun (x7 : Slc) =>
  Br (decide (s3.2 < ((x7.len : Nat) : Int))) (Ld vw4 ((⟨w.heap.size, 0, none⟩ : Addr).add 1) Slc.v fun (x18 : Slc) =>
    0 ≤ s3.2 ∧ s3.2 < (x18.len : Nat) ∧ Nn x18.p fun a19 =>
    Ld vw4 (a19.add ((s3.2).toNat * 6)) (Value.int .i64) fun (x20 : Int) =>
    Ld vw4 ((a19.add ((s3.2).toNat * 6)).add 1) (Value.int .i64) fun (x21 : Int) =>
    Ld vw4 ((a19.add ((s3.2).toNat * 6)).add 2) (Value.int .i64) fun (x22 : Int) =>
    Ld vw4 ((a19.add ((s3.2).toNat * 6)).add 3) Value.string fun (x23 : ByteArray) =>
    Ld vw4 ((a19.add ((s3.2).toNat * 6)).add 4) Slc.v fun (x24 : Slc) =>
    Ld vw4 ((a19.add ((s3.2).toNat * 6)).add 5) Slc.v fun (x25 : Slc) =>
    C105 (x20, x21, x22, x23, x24, x25) 110 vw4 fun r26 vw27 =>
      Br (!r26) (R (⟨none, 0, 0⟩ : Slc) 10 vw27) (Ld vw27 ((⟨w.heap.size, 0, none⟩ : Addr).add 1) Slc.v fun (x28 : Slc) =>
        0 ≤ s3.2 ∧ s3.2 < (x28.len : Nat) ∧ Nn x28.p fun a29 =>
        Ld vw27 (a29.add ((s3.2).toNat * 6)) (Value.int .i64) fun (x30 : Int) =>
        Ld vw27 ((a29.add ((s3.2).toNat * 6)).add 1) (Value.int .i64) fun (x31 : Int) =>
        Ld vw27 ((a29.add ((s3.2).toNat * 6)).add 2) (Value.int .i64) fun (x32 : Int) =>
        Ld vw27 ((a29.add ((s3.2).toNat * 6)).add 3) Value.string fun (x33 : ByteArray) =>
        Ld vw27 ((a29.add ((s3.2).toNat * 6)).add 4) Slc.v fun (x34 : Slc) =>
        Ld vw27 ((a29.add ((s3.2).toNat * 6)).add 5) Slc.v fun (x35 : Slc) =>
        C157 (x30, x31, x32, x33, x34, x35) vw27 fun r36 r37 vw38 =>
          Br (!r37) (R (⟨none, 0, 0⟩ : Slc) 2 vw38) (Nw vw38 (.cells #[.int .i64 r36] 2) fun vw39 =>
            Rn Tryd.prog (Builtin.append_ #[24, 24] 24 #[Slc.v s3.1, Slc.v ((⟨some ⟨vw38.heap.size, 0, none⟩, 1, 1⟩ : Slc))]) vw39 Slc.v fun (x40 : Slc) vw41 =>
            I5 (x40, IntKind.i64.wrap (s3.2 + 1)) vw41))) (R s3.1 0 vw4)
/-- foliant/foliantref43.Nums -/
def S99 (o1 : ByteArray × Slc × ByteArray) (w : World) (R : Slc → Int → World → Prop) : Prop :=
  Nw w (.cells #[.string o1.1, Slc.v o1.2.1, .string o1.2.2] 63) fun vw2 =>
  Lp (σ := Slc × Int) (S99L1 w R) ((⟨none, 0, 0⟩ : Slc), 0) vw2
def pl99 : Plan := (.seq (.reg .seq) (.seq (.reg .seq) (.seq (.seq (.reg .seq) (.block (.loop [(4, (.one .slc)), (5, (.one (.int .i64)))] [1] (.seq (.seq (.reg .seq) (.cond .leaf .leaf)) (.seq (.block (.seq (.seq (.reg .seq) (.cond (.seq (.reg .seq) .leaf) .leaf)) (.seq (.reg .seq) (.seq (.seq (.reg .seq) (.cond (.seq (.reg .seq) .leaf) .leaf)) (.reg .seq))))) (.reg .seq)))))) (.seq (.reg .seq) .leaf))))
set_option maxRecDepth 100000 in
theorem T99 (o1 : ByteArray × Slc × ByteArray) (w : World) (R : Slc → Int → World → Prop) (h : S99 o1 w R) : C99 (o1.1, o1.2.1, o1.2.2) w R := by
  have e : fnT Tryd.prog ⟨FF, MAY, (fun _ _ => False)⟩ pl99 Tryd.f99 [.agg #[.string o1.1, Slc.v o1.2.1, .string o1.2.2]] w [(.one .slc), (.one (.int .i64))] (fun s w => R s.1 s.2 w) = S99 o1 w R := by kernel_rfl
  exact (fn_calls okF okM Tryd.func99 (by kernel_rfl) (by kernel_rfl) (e.mpr h)).mono fun _ _ ⟨s, he, hR⟩ => ⟨s.1, s.2, he, hR⟩

def S100L1 (n2 : Slc) (R : Slc → Int → World → Prop) (I16 : (Slc × Int) → World → Prop) (s14 : Slc × Int) (vw15 : World) : Prop :=
  Br (decide ((IntKind.i64.wrap (s14.2 + 1)) < ((n2.len : Nat) : Int))) (∃ vS17 : World → Prop, vS17 vw15.drew ∧ 0 ≤ s14.2 ∧ s14.2 < (n2.len : Nat) ∧ Nn n2.p fun a18 =>
    LdS vS17 (a18.add ((s14.2).toNat * 1)) (Value.int .i64) fun (x19 : Int) =>
    0 ≤ (IntKind.i64.wrap (s14.2 + 1)) ∧ (IntKind.i64.wrap (s14.2 + 1)) < (n2.len : Nat) ∧ Nn n2.p fun a20 =>
    LdS vS17 (a20.add ((IntKind.i64.wrap (s14.2 + 1)).toNat * 1)) (Value.int .i64) fun (x21 : Int) =>
    Nw vw15.drew (.cells #[.int .i64 x19, .int .i64 x21] 43) fun vw22 =>
    Rn Tryd.prog (Builtin.append_ #[164, 164] 164 #[Slc.v s14.1, Slc.v ((⟨some ⟨vw15.drew.heap.size, 0, none⟩, 1, 1⟩ : Slc))]) vw22 Slc.v fun (x23 : Slc) vw24 =>
    I16 (x23, IntKind.i64.wrap (s14.2 + 2)) vw24) (R s14.1 0 vw15)
/-- foliant/foliantref45.pairs -/
def S100 (name1 : ByteArray) (n2 : Slc) (w : World) (R : Slc → Int → World → Prop) : Prop :=
  Br (!(name1.toList == (⟨#[114, 101]⟩ : ByteArray).toList)) (Lp (σ := Slc × Int) (S100L1 n2 R) ((⟨none, 0, 0⟩ : Slc), 0) w) (∃ vS25 : World → Prop, vS25 w.drew ∧ 0 ≤ (0 : Int) ∧ (0 : Int) < (n2.len : Nat) ∧ Nn n2.p fun a26 =>
    LdS vS25 (a26.add (((0 : Int)).toNat * 1)) (Value.int .i64) fun (x27 : Int) =>
    0 ≤ (2 : Int) ∧ (2 : Int) < (n2.len : Nat) ∧ Nn n2.p fun a28 =>
    LdS vS25 (a28.add (((2 : Int)).toNat * 1)) (Value.int .i64) fun (x29 : Int) =>
    Nw w.drew (.cells #[.int .i64 x27, .int .i64 x29] 2) fun vw30 =>
    C158 (⟨some ⟨w.drew.heap.size, 0, none⟩, 2, 2⟩ : Slc) vw30 fun r31 r32 vw33 =>
      Br (r32 != 0) (R (⟨none, 0, 0⟩ : Slc) r32 vw33) (∃ vS34 : World → Prop, vS34 vw33.drew ∧ 0 ≤ (1 : Int) ∧ (1 : Int) < (n2.len : Nat) ∧ Nn n2.p fun a35 =>
        LdS vS34 (a35.add (((1 : Int)).toNat * 1)) (Value.int .i64) fun (x36 : Int) =>
        0 ≤ (3 : Int) ∧ (3 : Int) < (n2.len : Nat) ∧ Nn n2.p fun a37 =>
        LdS vS34 (a37.add (((3 : Int)).toNat * 1)) (Value.int .i64) fun (x38 : Int) =>
        Nw vw33.drew (.cells #[.int .i64 x36, .int .i64 x38] 2) fun vw39 =>
        C158 (⟨some ⟨vw33.drew.heap.size, 0, none⟩, 2, 2⟩ : Slc) vw39 fun r40 r41 vw42 =>
          Br (r41 != 0) (R (⟨none, 0, 0⟩ : Slc) r41 vw42) (∃ vS43 : World → Prop, vS43 vw42.drew ∧ 0 ≤ (0 : Int) ∧ (0 : Int) < (n2.len : Nat) ∧ Nn n2.p fun a44 =>
            LdS vS43 (a44.add (((0 : Int)).toNat * 1)) (Value.int .i64) fun (x45 : Int) =>
            0 ≤ (1 : Int) ∧ (1 : Int) < (n2.len : Nat) ∧ Nn n2.p fun a46 =>
            LdS vS43 (a46.add (((1 : Int)).toNat * 1)) (Value.int .i64) fun (x47 : Int) =>
            0 ≤ (1 : Int) ∧ (1 : Int) < (n2.len : Nat) ∧ Nn n2.p fun a48 =>
            LdS vS43 (a48.add (((1 : Int)).toNat * 1)) (Value.int .i64) fun (x49 : Int) =>
            0 ≤ (0 : Int) ∧ (0 : Int) < (n2.len : Nat) ∧ Nn n2.p fun a50 =>
            LdS vS43 (a50.add (((0 : Int)).toNat * 1)) (Value.int .i64) fun (x51 : Int) =>
            (vS43 vw42.drew ∧ (vS43 vw42.drew ∧ (vS43 vw42.drew ∧ vS43 vw42.drew ∧ Nw vw42.drew (.cells #[.int .i64 x45, .int .i64 x47, .int .i64 r31, .int .i64 x49, .int .i64 r31, .int .i64 r40, .int .i64 x51, .int .i64 r40] 43) fun vw52 =>
                  R (⟨some ⟨vw42.drew.heap.size, 0, none⟩, 4, 4⟩ : Slc) 0 vw52) ∧
                (vS43 vw42.drew ∧ vS43 vw42.drew ∧ Nw vw42.drew (.cells #[.int .i64 x45, .int .i64 x47, .int .i64 r31, .int .i64 x49, .int .i64 r31, .int .i64 r40, .int .i64 x51, .int .i64 r40] 43) fun vw53 =>
                  R (⟨some ⟨vw42.drew.heap.size, 0, none⟩, 4, 4⟩ : Slc) 0 vw53)) ∧
              ((vS43 vw42.drew ∧ (vS43 vw42.drew ∧ vS43 vw42.drew ∧ Nw vw42.drew (.cells #[.int .i64 x45, .int .i64 x47, .int .i64 r31, .int .i64 x49, .int .i64 r31, .int .i64 r40, .int .i64 x51, .int .i64 r40] 43) fun vw54 =>
                    R (⟨some ⟨vw42.drew.heap.size, 0, none⟩, 4, 4⟩ : Slc) 0 vw54) ∧
                  (vS43 vw42.drew ∧ vS43 vw42.drew ∧ Nw vw42.drew (.cells #[.int .i64 x45, .int .i64 x47, .int .i64 r31, .int .i64 x49, .int .i64 r31, .int .i64 r40, .int .i64 x51, .int .i64 r40] 43) fun vw55 =>
                    R (⟨some ⟨vw42.drew.heap.size, 0, none⟩, 4, 4⟩ : Slc) 0 vw55)) ∧
                (vS43 vw42.drew ∧ (vS43 vw42.drew ∧ vS43 vw42.drew ∧ Nw vw42.drew (.cells #[.int .i64 x45, .int .i64 x47, .int .i64 r31, .int .i64 x49, .int .i64 r31, .int .i64 r40, .int .i64 x51, .int .i64 r40] 43) fun vw56 =>
                    R (⟨some ⟨vw42.drew.heap.size, 0, none⟩, 4, 4⟩ : Slc) 0 vw56) ∧
                  (vS43 vw42.drew ∧ vS43 vw42.drew ∧ Nw vw42.drew (.cells #[.int .i64 x45, .int .i64 x47, .int .i64 r31, .int .i64 x49, .int .i64 r31, .int .i64 r40, .int .i64 x51, .int .i64 r40] 43) fun vw57 =>
                    R (⟨some ⟨vw42.drew.heap.size, 0, none⟩, 4, 4⟩ : Slc) 0 vw57)))) ∧
            ((vS43 vw42.drew ∧ (vS43 vw42.drew ∧ (vS43 vw42.drew ∧ vS43 vw42.drew ∧ Nw vw42.drew (.cells #[.int .i64 x45, .int .i64 x47, .int .i64 r31, .int .i64 x49, .int .i64 r31, .int .i64 r40, .int .i64 x51, .int .i64 r40] 43) fun vw58 =>
                    R (⟨some ⟨vw42.drew.heap.size, 0, none⟩, 4, 4⟩ : Slc) 0 vw58) ∧
                  (vS43 vw42.drew ∧ vS43 vw42.drew ∧ Nw vw42.drew (.cells #[.int .i64 x45, .int .i64 x47, .int .i64 r31, .int .i64 x49, .int .i64 r31, .int .i64 r40, .int .i64 x51, .int .i64 r40] 43) fun vw59 =>
                    R (⟨some ⟨vw42.drew.heap.size, 0, none⟩, 4, 4⟩ : Slc) 0 vw59)) ∧
                ((vS43 vw42.drew ∧ (vS43 vw42.drew ∧ vS43 vw42.drew ∧ Nw vw42.drew (.cells #[.int .i64 x45, .int .i64 x47, .int .i64 r31, .int .i64 x49, .int .i64 r31, .int .i64 r40, .int .i64 x51, .int .i64 r40] 43) fun vw60 =>
                      R (⟨some ⟨vw42.drew.heap.size, 0, none⟩, 4, 4⟩ : Slc) 0 vw60) ∧
                    (vS43 vw42.drew ∧ vS43 vw42.drew ∧ Nw vw42.drew (.cells #[.int .i64 x45, .int .i64 x47, .int .i64 r31, .int .i64 x49, .int .i64 r31, .int .i64 r40, .int .i64 x51, .int .i64 r40] 43) fun vw61 =>
                      R (⟨some ⟨vw42.drew.heap.size, 0, none⟩, 4, 4⟩ : Slc) 0 vw61)) ∧
                  (vS43 vw42.drew ∧ (vS43 vw42.drew ∧ vS43 vw42.drew ∧ Nw vw42.drew (.cells #[.int .i64 x45, .int .i64 x47, .int .i64 r31, .int .i64 x49, .int .i64 r31, .int .i64 r40, .int .i64 x51, .int .i64 r40] 43) fun vw62 =>
                      R (⟨some ⟨vw42.drew.heap.size, 0, none⟩, 4, 4⟩ : Slc) 0 vw62) ∧
                    (vS43 vw42.drew ∧ vS43 vw42.drew ∧ Nw vw42.drew (.cells #[.int .i64 x45, .int .i64 x47, .int .i64 r31, .int .i64 x49, .int .i64 r31, .int .i64 r40, .int .i64 x51, .int .i64 r40] 43) fun vw63 =>
                      R (⟨some ⟨vw42.drew.heap.size, 0, none⟩, 4, 4⟩ : Slc) 0 vw63)))) ∧
              ((vS43 vw42.drew ∧ (vS43 vw42.drew ∧ (vS43 vw42.drew ∧ vS43 vw42.drew ∧ Nw vw42.drew (.cells #[.int .i64 x45, .int .i64 x47, .int .i64 r31, .int .i64 x49, .int .i64 r31, .int .i64 r40, .int .i64 x51, .int .i64 r40] 43) fun vw64 =>
                      R (⟨some ⟨vw42.drew.heap.size, 0, none⟩, 4, 4⟩ : Slc) 0 vw64) ∧
                    (vS43 vw42.drew ∧ vS43 vw42.drew ∧ Nw vw42.drew (.cells #[.int .i64 x45, .int .i64 x47, .int .i64 r31, .int .i64 x49, .int .i64 r31, .int .i64 r40, .int .i64 x51, .int .i64 r40] 43) fun vw65 =>
                      R (⟨some ⟨vw42.drew.heap.size, 0, none⟩, 4, 4⟩ : Slc) 0 vw65)) ∧
                  ((vS43 vw42.drew ∧ (vS43 vw42.drew ∧ vS43 vw42.drew ∧ Nw vw42.drew (.cells #[.int .i64 x45, .int .i64 x47, .int .i64 r31, .int .i64 x49, .int .i64 r31, .int .i64 r40, .int .i64 x51, .int .i64 r40] 43) fun vw66 =>
                        R (⟨some ⟨vw42.drew.heap.size, 0, none⟩, 4, 4⟩ : Slc) 0 vw66) ∧
                      (vS43 vw42.drew ∧ vS43 vw42.drew ∧ Nw vw42.drew (.cells #[.int .i64 x45, .int .i64 x47, .int .i64 r31, .int .i64 x49, .int .i64 r31, .int .i64 r40, .int .i64 x51, .int .i64 r40] 43) fun vw67 =>
                        R (⟨some ⟨vw42.drew.heap.size, 0, none⟩, 4, 4⟩ : Slc) 0 vw67)) ∧
                    (vS43 vw42.drew ∧ (vS43 vw42.drew ∧ vS43 vw42.drew ∧ Nw vw42.drew (.cells #[.int .i64 x45, .int .i64 x47, .int .i64 r31, .int .i64 x49, .int .i64 r31, .int .i64 r40, .int .i64 x51, .int .i64 r40] 43) fun vw68 =>
                        R (⟨some ⟨vw42.drew.heap.size, 0, none⟩, 4, 4⟩ : Slc) 0 vw68) ∧
                      (vS43 vw42.drew ∧ vS43 vw42.drew ∧ Nw vw42.drew (.cells #[.int .i64 x45, .int .i64 x47, .int .i64 r31, .int .i64 x49, .int .i64 r31, .int .i64 r40, .int .i64 x51, .int .i64 r40] 43) fun vw69 =>
                        R (⟨some ⟨vw42.drew.heap.size, 0, none⟩, 4, 4⟩ : Slc) 0 vw69)))) ∧
                (vS43 vw42.drew ∧ (vS43 vw42.drew ∧ (vS43 vw42.drew ∧ vS43 vw42.drew ∧ Nw vw42.drew (.cells #[.int .i64 x45, .int .i64 x47, .int .i64 r31, .int .i64 x49, .int .i64 r31, .int .i64 r40, .int .i64 x51, .int .i64 r40] 43) fun vw70 =>
                      R (⟨some ⟨vw42.drew.heap.size, 0, none⟩, 4, 4⟩ : Slc) 0 vw70) ∧
                    (vS43 vw42.drew ∧ vS43 vw42.drew ∧ Nw vw42.drew (.cells #[.int .i64 x45, .int .i64 x47, .int .i64 r31, .int .i64 x49, .int .i64 r31, .int .i64 r40, .int .i64 x51, .int .i64 r40] 43) fun vw71 =>
                      R (⟨some ⟨vw42.drew.heap.size, 0, none⟩, 4, 4⟩ : Slc) 0 vw71)) ∧
                  ((vS43 vw42.drew ∧ (vS43 vw42.drew ∧ vS43 vw42.drew ∧ Nw vw42.drew (.cells #[.int .i64 x45, .int .i64 x47, .int .i64 r31, .int .i64 x49, .int .i64 r31, .int .i64 r40, .int .i64 x51, .int .i64 r40] 43) fun vw72 =>
                        R (⟨some ⟨vw42.drew.heap.size, 0, none⟩, 4, 4⟩ : Slc) 0 vw72) ∧
                      (vS43 vw42.drew ∧ vS43 vw42.drew ∧ Nw vw42.drew (.cells #[.int .i64 x45, .int .i64 x47, .int .i64 r31, .int .i64 x49, .int .i64 r31, .int .i64 r40, .int .i64 x51, .int .i64 r40] 43) fun vw73 =>
                        R (⟨some ⟨vw42.drew.heap.size, 0, none⟩, 4, 4⟩ : Slc) 0 vw73)) ∧
                    (vS43 vw42.drew ∧ (vS43 vw42.drew ∧ vS43 vw42.drew ∧ Nw vw42.drew (.cells #[.int .i64 x45, .int .i64 x47, .int .i64 r31, .int .i64 x49, .int .i64 r31, .int .i64 r40, .int .i64 x51, .int .i64 r40] 43) fun vw74 =>
                        R (⟨some ⟨vw42.drew.heap.size, 0, none⟩, 4, 4⟩ : Slc) 0 vw74) ∧
                      (vS43 vw42.drew ∧ vS43 vw42.drew ∧ Nw vw42.drew (.cells #[.int .i64 x45, .int .i64 x47, .int .i64 r31, .int .i64 x49, .int .i64 r31, .int .i64 r40, .int .i64 x51, .int .i64 r40] 43) fun vw75 =>
                        R (⟨some ⟨vw42.drew.heap.size, 0, none⟩, 4, 4⟩ : Slc) 0 vw75)))))))))
def pl100 : Plan := (.seq (.reg .seq) (.seq (.seq (.reg .seq) (.cond (.seq (.reg .seq) (.seq (.seq (.reg .seq) (.block (.loop [(6, (.one .slc)), (7, (.one (.int .i64)))] [1] (.seq (.seq (.reg .seq) (.cond .leaf .leaf)) (.seq (.block (.reg (.held [10] (.take 0 (.take 1 (.take 2 (.take 3 (.take 4 (.take 5 (.take 6 (.take 7 (.take 8 (.take 9 (.eff 10 (some [11]) (.eff 11 (some [12]) (.eff 12 (some []) (.take 13 .done))))))))))))))))) (.reg .seq)))))) (.seq (.reg .seq) .leaf))) .leaf)) (.seq (.reg (.held [6] (.take 0 (.take 1 (.take 2 (.take 3 (.take 4 (.take 5 (.eff 6 (some [7]) (.eff 7 (some []) (.take 8 (.take 9 (.take 10 (.take 11 (.take 12 .done))))))))))))))) (.seq (.seq (.reg .seq) (.cond (.seq (.reg .seq) .leaf) .leaf)) (.seq (.reg (.held [6] (.take 0 (.take 1 (.take 2 (.take 3 (.take 4 (.take 5 (.eff 6 (some [7]) (.eff 7 (some []) (.take 8 (.take 9 (.take 10 (.take 11 (.take 12 .done))))))))))))))) (.seq (.seq (.reg .seq) (.cond (.seq (.reg .seq) .leaf) .leaf)) (.seq (.reg (.held [20] (.take 0 (.take 1 (.take 2 (.take 3 (.take 4 (.take 5 (.take 7 (.take 8 (.take 9 (.take 10 (.take 12 (.take 13 (.take 15 (.take 16 (.take 17 (.take 18 (.effs 6 none (.effs 11 none (.effs 14 none (.eff 19 none (.eff 20 (some []) (.take 21 (.take 22 .done)))) (.eff 19 none (.eff 14 none (.eff 20 (some []) (.take 21 (.take 22 .done)))))) (.effs 14 none (.effs 11 none (.eff 19 none (.eff 20 (some []) (.take 21 (.take 22 .done)))) (.eff 19 none (.eff 11 none (.eff 20 (some []) (.take 21 (.take 22 .done)))))) (.eff 19 none (.effs 11 none (.eff 14 none (.eff 20 (some []) (.take 21 (.take 22 .done)))) (.eff 14 none (.eff 11 none (.eff 20 (some []) (.take 21 (.take 22 .done))))))))) (.effs 11 none (.effs 6 none (.effs 14 none (.eff 19 none (.eff 20 (some []) (.take 21 (.take 22 .done)))) (.eff 19 none (.eff 14 none (.eff 20 (some []) (.take 21 (.take 22 .done)))))) (.effs 14 none (.effs 6 none (.eff 19 none (.eff 20 (some []) (.take 21 (.take 22 .done)))) (.eff 19 none (.eff 6 none (.eff 20 (some []) (.take 21 (.take 22 .done)))))) (.eff 19 none (.effs 6 none (.eff 14 none (.eff 20 (some []) (.take 21 (.take 22 .done)))) (.eff 14 none (.eff 6 none (.eff 20 (some []) (.take 21 (.take 22 .done))))))))) (.effs 14 none (.effs 6 none (.effs 11 none (.eff 19 none (.eff 20 (some []) (.take 21 (.take 22 .done)))) (.eff 19 none (.eff 11 none (.eff 20 (some []) (.take 21 (.take 22 .done)))))) (.effs 11 none (.effs 6 none (.eff 19 none (.eff 20 (some []) (.take 21 (.take 22 .done)))) (.eff 19 none (.eff 6 none (.eff 20 (some []) (.take 21 (.take 22 .done)))))) (.eff 19 none (.effs 6 none (.eff 11 none (.eff 20 (some []) (.take 21 (.take 22 .done)))) (.eff 11 none (.eff 6 none (.eff 20 (some []) (.take 21 (.take 22 .done))))))))) (.eff 19 none (.effs 6 none (.effs 11 none (.eff 14 none (.eff 20 (some []) (.take 21 (.take 22 .done)))) (.eff 14 none (.eff 11 none (.eff 20 (some []) (.take 21 (.take 22 .done)))))) (.effs 11 none (.effs 6 none (.eff 14 none (.eff 20 (some []) (.take 21 (.take 22 .done)))) (.eff 14 none (.eff 6 none (.eff 20 (some []) (.take 21 (.take 22 .done)))))) (.eff 14 none (.effs 6 none (.eff 11 none (.eff 20 (some []) (.take 21 (.take 22 .done)))) (.eff 11 none (.eff 6 none (.eff 20 (some []) (.take 21 (.take 22 .done))))))))))))))))))))))))))))))) .leaf)))))))
set_option maxRecDepth 100000 in
theorem T100 (name1 : ByteArray) (n2 : Slc) (w : World) (R : Slc → Int → World → Prop) (h : S100 name1 n2 w R) : C100 name1 n2 w R := by
  have e : fnT Tryd.prog ⟨FF, MAY, (fun _ _ => False)⟩ pl100 Tryd.f100 [.string name1, Slc.v n2] w [(.one .slc), (.one (.int .i64))] (fun s w => R s.1 s.2 w) = S100 name1 n2 w R := by kernel_rfl
  exact (fn_calls okF okM Tryd.func100 (by kernel_rfl) (by kernel_rfl) (e.mpr h)).mono fun _ _ ⟨s, he, hR⟩ => ⟨s.1, s.2, he, hR⟩

def S101L1 (w : World) (l1 : Slc) (vw18 : World) (R : (Int × Int) → World → Prop) (I36 : Int → World → Prop) (s34 : Int) (vw35 : World) : Prop :=
  Br (decide (s34 < ((l1.len : Nat) : Int))) (0 ≤ s34 ∧ s34 < (l1.len : Nat) ∧ Nn l1.p fun a37 =>
    Ld vw35 (a37.add ((s34).toNat * 7)) (Value.int .i64) fun (x38 : Int) =>
    Ld vw35 ((a37.add ((s34).toNat * 7)).add 1) (Value.int .i64) fun (x39 : Int) =>
    Ld vw35 ((a37.add ((s34).toNat * 7)).add 2) (Value.int .i64) fun (x40 : Int) =>
    Ld vw35 ((a37.add ((s34).toNat * 7)).add 3) (Value.int .i64) fun (x41 : Int) =>
    Ld vw35 ((a37.add ((s34).toNat * 7)).add 4) (Value.int .i64) fun (x42 : Int) =>
    Ld vw35 ((a37.add ((s34).toNat * 7)).add 5) (Value.int .i64) fun (x43 : Int) =>
    Ld vw35 ((a37.add ((s34).toNat * 7)).add 6) (Value.int .i64) fun (x44 : Int) =>
    Nw vw35 (.cells #[.int .i64 0, .int .i64 0, .int .i64 0, .int .i64 0, .int .i64 0, .int .i64 0, .int .i64 0] 67) fun vw45 =>
    St vw45 (⟨vw35.heap.size, 0, none⟩ : Addr) (.int .i64 x38) fun vw46 =>
    St vw46 ((⟨vw35.heap.size, 0, none⟩ : Addr).add 1) (.int .i64 x39) fun vw47 =>
    St vw47 ((⟨vw35.heap.size, 0, none⟩ : Addr).add 2) (.int .i64 x40) fun vw48 =>
    St vw48 ((⟨vw35.heap.size, 0, none⟩ : Addr).add 3) (.int .i64 x41) fun vw49 =>
    St vw49 ((⟨vw35.heap.size, 0, none⟩ : Addr).add 4) (.int .i64 x42) fun vw50 =>
    St vw50 ((⟨vw35.heap.size, 0, none⟩ : Addr).add 5) (.int .i64 x43) fun vw51 =>
    St vw51 ((⟨vw35.heap.size, 0, none⟩ : Addr).add 6) (.int .i64 x44) fun vw52 =>
    Ld vw52 (⟨vw35.heap.size, 0, none⟩ : Addr) (Value.int .i64) fun (x53 : Int) =>
    Br (x53 == 1) (Ld vw52 ((⟨vw35.heap.size, 0, none⟩ : Addr).add 5) (Value.int .i64) fun (x54 : Int) =>
      Ld vw52 (((⟨vw35.heap.size, 0, none⟩ : Addr).add 5).add 1) (Value.int .i64) fun (x55 : Int) =>
      St vw52 (⟨vw18.heap.size, 0, none⟩ : Addr) (.int .i64 x54) fun vw56 =>
      St vw56 ((⟨vw18.heap.size, 0, none⟩ : Addr).add 1) (.int .i64 x55) fun vw57 =>
      I36 (IntKind.i64.wrap (s34 + 1)) vw57) (I36 (IntKind.i64.wrap (s34 + 1)) vw52)) (Ld vw35 (⟨vw18.heap.size, 0, none⟩ : Addr) (Value.int .i64) fun (x58 : Int) =>
    Ld vw35 ((⟨vw18.heap.size, 0, none⟩ : Addr).add 1) (Value.int .i64) fun (x59 : Int) =>
    St vw35 (⟨w.heap.size, 0, none⟩ : Addr) (.int .i64 x58) fun vw60 =>
    St vw60 ((⟨w.heap.size, 0, none⟩ : Addr).add 1) (.int .i64 x59) fun vw61 =>
    Ld vw61 (⟨w.heap.size, 0, none⟩ : Addr) (Value.int .i64) fun (x62 : Int) =>
    Ld vw61 ((⟨w.heap.size, 0, none⟩ : Addr).add 1) (Value.int .i64) fun (x63 : Int) =>
    R (x62, x63) vw61)
/-- foliant/foliantref45.current -/
def S101 (l1 : Slc) (w : World) (R : (Int × Int) → World → Prop) : Prop :=
  Nw w (.cells #[.int .i64 0, .int .i64 0] 43) fun vw2 =>
  0 ≤ (IntKind.i64.wrap (((l1.len : Nat) : Int) - 1)) ∧ (IntKind.i64.wrap (((l1.len : Nat) : Int) - 1)) < (l1.len : Nat) ∧ Nn l1.p fun a3 =>
  Ld vw2 (a3.add ((IntKind.i64.wrap (((l1.len : Nat) : Int) - 1)).toNat * 7)) (Value.int .i64) fun (x4 : Int) =>
  Ld vw2 ((a3.add ((IntKind.i64.wrap (((l1.len : Nat) : Int) - 1)).toNat * 7)).add 1) (Value.int .i64) fun (x5 : Int) =>
  Ld vw2 ((a3.add ((IntKind.i64.wrap (((l1.len : Nat) : Int) - 1)).toNat * 7)).add 2) (Value.int .i64) fun (x6 : Int) =>
  Ld vw2 ((a3.add ((IntKind.i64.wrap (((l1.len : Nat) : Int) - 1)).toNat * 7)).add 3) (Value.int .i64) fun (x7 : Int) =>
  Ld vw2 ((a3.add ((IntKind.i64.wrap (((l1.len : Nat) : Int) - 1)).toNat * 7)).add 4) (Value.int .i64) fun (x8 : Int) =>
  Ld vw2 ((a3.add ((IntKind.i64.wrap (((l1.len : Nat) : Int) - 1)).toNat * 7)).add 5) (Value.int .i64) fun (x9 : Int) =>
  Ld vw2 ((a3.add ((IntKind.i64.wrap (((l1.len : Nat) : Int) - 1)).toNat * 7)).add 6) (Value.int .i64) fun (x10 : Int) =>
  Nw vw2 (.cells #[.int .i64 0, .int .i64 0, .int .i64 0, .int .i64 0, .int .i64 0, .int .i64 0, .int .i64 0] 67) fun vw11 =>
  St vw11 (⟨vw2.heap.size, 0, none⟩ : Addr) (.int .i64 x4) fun vw12 =>
  St vw12 ((⟨vw2.heap.size, 0, none⟩ : Addr).add 1) (.int .i64 x5) fun vw13 =>
  St vw13 ((⟨vw2.heap.size, 0, none⟩ : Addr).add 2) (.int .i64 x6) fun vw14 =>
  St vw14 ((⟨vw2.heap.size, 0, none⟩ : Addr).add 3) (.int .i64 x7) fun vw15 =>
  St vw15 ((⟨vw2.heap.size, 0, none⟩ : Addr).add 4) (.int .i64 x8) fun vw16 =>
  St vw16 ((⟨vw2.heap.size, 0, none⟩ : Addr).add 5) (.int .i64 x9) fun vw17 =>
  St vw17 ((⟨vw2.heap.size, 0, none⟩ : Addr).add 6) (.int .i64 x10) fun vw18 =>
  Ld vw18 (⟨vw2.heap.size, 0, none⟩ : Addr) (Value.int .i64) fun (x24 : Int) =>
  Br (x24 != 4) (Ld vw18 ((⟨vw2.heap.size, 0, none⟩ : Addr).add 5) (Value.int .i64) fun (x25 : Int) =>
    Ld vw18 (((⟨vw2.heap.size, 0, none⟩ : Addr).add 5).add 1) (Value.int .i64) fun (x26 : Int) =>
    St vw18 (⟨w.heap.size, 0, none⟩ : Addr) (.int .i64 x25) fun vw27 =>
    St vw27 ((⟨w.heap.size, 0, none⟩ : Addr).add 1) (.int .i64 x26) fun vw28 =>
    Ld vw28 (⟨w.heap.size, 0, none⟩ : Addr) (Value.int .i64) fun (x29 : Int) =>
    Ld vw28 ((⟨w.heap.size, 0, none⟩ : Addr).add 1) (Value.int .i64) fun (x30 : Int) =>
    R (x29, x30) vw28) (Nw vw18 (.cells #[.int .i64 0, .int .i64 0] 43) fun vw31 =>
    St vw31 (⟨vw18.heap.size, 0, none⟩ : Addr) (.int .i64 0) fun vw32 =>
    St vw32 ((⟨vw18.heap.size, 0, none⟩ : Addr).add 1) (.int .i64 0) fun vw33 =>
    Lp (σ := Int) (S101L1 w l1 vw18 R) 0 vw33)
def pl101 : Plan := (.seq (.reg .seq) (.seq (.reg .seq) (.seq (.seq (.reg .seq) (.cond (.seq (.reg .seq) .leaf) .leaf)) (.seq (.reg .seq) (.seq (.seq (.reg .seq) (.block (.loop [(21, (.one (.int .i64)))] [2, 4, 19, 20] (.seq (.reg .seq) (.seq (.cond .leaf .leaf) (.seq (.block (.seq (.reg .seq) (.seq (.reg .seq) (.cond (.reg .seq) .leaf)))) (.reg .seq))))))) (.seq (.reg .seq) .leaf))))))
set_option maxRecDepth 100000 in
theorem T101 (l1 : Slc) (w : World) (R : (Int × Int) → World → Prop) (h : S101 l1 w R) : C101 l1 w R := by
  have e : fnT Tryd.prog ⟨FF, MAY, (fun _ _ => False)⟩ pl101 Tryd.f101 [Slc.v l1] w [(.agg [(.int .i64), (.int .i64)])] (fun s w => R s w) = S101 l1 w R := by kernel_rfl
  exact (fn_calls okF okM Tryd.func101 (by kernel_rfl) (by kernel_rfl) (e.mpr h)).mono fun _ _ ⟨s, he, hR⟩ => ⟨s, he, hR⟩

/-- foliant/foliantref45.parts -/
def S102 (name1 : ByteArray) (p2 : Slc) (here3 : Int × Int) (w : World) (R : Slc → World → Prop) : Prop :=
  Nw w (.cells #[.int .i64 (here3.1), .int .i64 (here3.2)] 43) fun vw4 =>
  Br (name1.toList == (⟨#[109]⟩ : ByteArray).toList) (0 ≤ (0 : Int) ∧ (0 : Int) < (p2.len : Nat) ∧ Nn p2.p fun a5 =>
    Ld vw4 (a5.add (((0 : Int)).toNat * 2)) (Value.int .i64) fun (x6 : Int) =>
    Ld vw4 ((a5.add (((0 : Int)).toNat * 2)).add 1) (Value.int .i64) fun (x7 : Int) =>
    Nw vw4 (.cells #[.int .i64 1, .int .i64 0, .int .i64 0, .int .i64 0, .int .i64 0, .int .i64 x6, .int .i64 x7] 67) fun vw8 =>
    R (⟨some ⟨vw4.heap.size, 0, none⟩, 1, 1⟩ : Slc) vw8) (Br (name1.toList == (⟨#[108]⟩ : ByteArray).toList) (0 ≤ (0 : Int) ∧ (0 : Int) < (p2.len : Nat) ∧ Nn p2.p fun a9 =>
      Ld vw4 (a9.add (((0 : Int)).toNat * 2)) (Value.int .i64) fun (x10 : Int) =>
      Ld vw4 ((a9.add (((0 : Int)).toNat * 2)).add 1) (Value.int .i64) fun (x11 : Int) =>
      Nw vw4 (.cells #[.int .i64 2, .int .i64 0, .int .i64 0, .int .i64 0, .int .i64 0, .int .i64 x10, .int .i64 x11] 67) fun vw12 =>
      R (⟨some ⟨vw4.heap.size, 0, none⟩, 1, 1⟩ : Slc) vw12) (Br (name1.toList == (⟨#[99]⟩ : ByteArray).toList) (0 ≤ (0 : Int) ∧ (0 : Int) < (p2.len : Nat) ∧ Nn p2.p fun a13 =>
        Ld vw4.drew (a13.add (((0 : Int)).toNat * 2)) (Value.int .i64) fun (x14 : Int) =>
        Ld vw4.drew ((a13.add (((0 : Int)).toNat * 2)).add 1) (Value.int .i64) fun (x15 : Int) =>
        0 ≤ (1 : Int) ∧ (1 : Int) < (p2.len : Nat) ∧ Nn p2.p fun a16 =>
        Ld vw4.drew (a16.add (((1 : Int)).toNat * 2)) (Value.int .i64) fun (x17 : Int) =>
        Ld vw4.drew ((a16.add (((1 : Int)).toNat * 2)).add 1) (Value.int .i64) fun (x18 : Int) =>
        0 ≤ (2 : Int) ∧ (2 : Int) < (p2.len : Nat) ∧ Nn p2.p fun a19 =>
        Ld vw4.drew (a19.add (((2 : Int)).toNat * 2)) (Value.int .i64) fun (x20 : Int) =>
        Ld vw4.drew ((a19.add (((2 : Int)).toNat * 2)).add 1) (Value.int .i64) fun (x21 : Int) =>
        Nw vw4.drew (.cells #[.int .i64 3, .int .i64 x14, .int .i64 x15, .int .i64 x17, .int .i64 x18, .int .i64 x20, .int .i64 x21] 67) fun vw22 =>
        R (⟨some ⟨vw4.drew.heap.size, 0, none⟩, 1, 1⟩ : Slc) vw22) (Br (name1.toList == (⟨#[118]⟩ : ByteArray).toList) (Ld vw4.drew (⟨w.heap.size, 0, none⟩ : Addr) (Value.int .i64) fun (x23 : Int) =>
          Ld vw4.drew ((⟨w.heap.size, 0, none⟩ : Addr).add 1) (Value.int .i64) fun (x24 : Int) =>
          0 ≤ (0 : Int) ∧ (0 : Int) < (p2.len : Nat) ∧ Nn p2.p fun a25 =>
          Ld vw4.drew (a25.add (((0 : Int)).toNat * 2)) (Value.int .i64) fun (x26 : Int) =>
          Ld vw4.drew ((a25.add (((0 : Int)).toNat * 2)).add 1) (Value.int .i64) fun (x27 : Int) =>
          0 ≤ (1 : Int) ∧ (1 : Int) < (p2.len : Nat) ∧ Nn p2.p fun a28 =>
          Ld vw4.drew (a28.add (((1 : Int)).toNat * 2)) (Value.int .i64) fun (x29 : Int) =>
          Ld vw4.drew ((a28.add (((1 : Int)).toNat * 2)).add 1) (Value.int .i64) fun (x30 : Int) =>
          Nw vw4.drew (.cells #[.int .i64 3, .int .i64 x23, .int .i64 x24, .int .i64 x26, .int .i64 x27, .int .i64 x29, .int .i64 x30] 67) fun vw31 =>
          R (⟨some ⟨vw4.drew.heap.size, 0, none⟩, 1, 1⟩ : Slc) vw31) (Br (name1.toList == (⟨#[121]⟩ : ByteArray).toList) (0 ≤ (0 : Int) ∧ (0 : Int) < (p2.len : Nat) ∧ Nn p2.p fun a32 =>
            Ld vw4.drew (a32.add (((0 : Int)).toNat * 2)) (Value.int .i64) fun (x33 : Int) =>
            Ld vw4.drew ((a32.add (((0 : Int)).toNat * 2)).add 1) (Value.int .i64) fun (x34 : Int) =>
            0 ≤ (1 : Int) ∧ (1 : Int) < (p2.len : Nat) ∧ Nn p2.p fun a35 =>
            Ld vw4.drew (a35.add (((1 : Int)).toNat * 2)) (Value.int .i64) fun (x36 : Int) =>
            Ld vw4.drew ((a35.add (((1 : Int)).toNat * 2)).add 1) (Value.int .i64) fun (x37 : Int) =>
            0 ≤ (1 : Int) ∧ (1 : Int) < (p2.len : Nat) ∧ Nn p2.p fun a38 =>
            Ld vw4.drew (a38.add (((1 : Int)).toNat * 2)) (Value.int .i64) fun (x39 : Int) =>
            Ld vw4.drew ((a38.add (((1 : Int)).toNat * 2)).add 1) (Value.int .i64) fun (x40 : Int) =>
            Nw vw4.drew (.cells #[.int .i64 3, .int .i64 x33, .int .i64 x34, .int .i64 x36, .int .i64 x37, .int .i64 x39, .int .i64 x40] 67) fun vw41 =>
            R (⟨some ⟨vw4.drew.heap.size, 0, none⟩, 1, 1⟩ : Slc) vw41) (Br (name1.toList == (⟨#[104]⟩ : ByteArray).toList) (Nw vw4 (.cells #[.int .i64 4, .int .i64 0, .int .i64 0, .int .i64 0, .int .i64 0, .int .i64 0, .int .i64 0] 67) fun vw42 =>
              R (⟨some ⟨vw4.heap.size, 0, none⟩, 1, 1⟩ : Slc) vw42) (Br (name1.toList == (⟨#[114, 101]⟩ : ByteArray).toList) (∃ vS43 : World → Prop, vS43 vw4.drew ∧ 0 ≤ (0 : Int) ∧ (0 : Int) < (p2.len : Nat) ∧ Nn p2.p fun a44 =>
                LdS vS43 (a44.add (((0 : Int)).toNat * 2)) (Value.int .i64) fun (x45 : Int) =>
                LdS vS43 ((a44.add (((0 : Int)).toNat * 2)).add 1) (Value.int .i64) fun (x46 : Int) =>
                0 ≤ (1 : Int) ∧ (1 : Int) < (p2.len : Nat) ∧ Nn p2.p fun a47 =>
                LdS vS43 (a47.add (((1 : Int)).toNat * 2)) (Value.int .i64) fun (x48 : Int) =>
                LdS vS43 ((a47.add (((1 : Int)).toNat * 2)).add 1) (Value.int .i64) fun (x49 : Int) =>
                0 ≤ (2 : Int) ∧ (2 : Int) < (p2.len : Nat) ∧ Nn p2.p fun a50 =>
                LdS vS43 (a50.add (((2 : Int)).toNat * 2)) (Value.int .i64) fun (x51 : Int) =>
                LdS vS43 ((a50.add (((2 : Int)).toNat * 2)).add 1) (Value.int .i64) fun (x52 : Int) =>
                0 ≤ (3 : Int) ∧ (3 : Int) < (p2.len : Nat) ∧ Nn p2.p fun a53 =>
                LdS vS43 (a53.add (((3 : Int)).toNat * 2)) (Value.int .i64) fun (x54 : Int) =>
                LdS vS43 ((a53.add (((3 : Int)).toNat * 2)).add 1) (Value.int .i64) fun (x55 : Int) =>
                ∃ le56 : World → World → Prop, ∃ B57 : World → Prop, B57 vw4.drew ∧ ∃ G58 : (Int × Int × Int × Int × Int × Int × Int) → World → Prop, (∀ (x59 : Int × Int × Int × Int × Int × Int × Int) (vw60 : World) (vw61 : World), le56 vw60 vw61 → G58 x59 vw60 → G58 x59 vw61) ∧
                ∃ G62 : (Int × Int × Int × Int × Int × Int × Int) → World → Prop, (∀ (x63 : Int × Int × Int × Int × Int × Int × Int) (vw64 : World) (vw65 : World), le56 vw64 vw65 → G62 x63 vw64 → G62 x63 vw65) ∧
                ∃ G66 : (Int × Int × Int × Int × Int × Int × Int) → World → Prop, (∀ (x67 : Int × Int × Int × Int × Int × Int × Int) (vw68 : World) (vw69 : World), le56 vw68 vw69 → G66 x67 vw68 → G66 x67 vw69) ∧
                ∃ G70 : (Int × Int × Int × Int × Int × Int × Int) → World → Prop, (∀ (x71 : Int × Int × Int × Int × Int × Int × Int) (vw72 : World) (vw73 : World), le56 vw72 vw73 → G70 x71 vw72 → G70 x71 vw73) ∧
                ∃ G74 : (Int × Int × Int × Int × Int × Int × Int) → World → Prop, (∀ (x75 : Int × Int × Int × Int × Int × Int × Int) (vw76 : World) (vw77 : World), le56 vw76 vw77 → G74 x75 vw76 → G74 x75 vw77) ∧
                ((∀ (vw78 : World), vS43 vw78 → B57 vw78 → vS43 vw78 ∧ B57 vw78 ∧ le56 vw78 vw78 ∧ ∃ x79 : Int × Int × Int × Int × Int × Int × Int, (.agg #[.int .i64 1, .int .i64 0, .int .i64 0, .int .i64 0, .int .i64 0, .int .i64 x45, .int .i64 x46] : Value) = .agg #[.int .i64 (x79.1), .int .i64 (x79.2.1), .int .i64 (x79.2.2.1), .int .i64 (x79.2.2.2.1), .int .i64 (x79.2.2.2.2.1), .int .i64 (x79.2.2.2.2.2.1), .int .i64 (x79.2.2.2.2.2.2)] ∧ G58 x79 vw78) ∧
                (∀ (vw80 : World), vS43 vw80 → B57 vw80 → vS43 vw80 ∧ B57 vw80 ∧ le56 vw80 vw80 ∧ ∃ x81 : Int × Int × Int × Int × Int × Int × Int, (.agg #[.int .i64 2, .int .i64 0, .int .i64 0, .int .i64 0, .int .i64 0, .int .i64 x48, .int .i64 x49] : Value) = .agg #[.int .i64 (x81.1), .int .i64 (x81.2.1), .int .i64 (x81.2.2.1), .int .i64 (x81.2.2.2.1), .int .i64 (x81.2.2.2.2.1), .int .i64 (x81.2.2.2.2.2.1), .int .i64 (x81.2.2.2.2.2.2)] ∧ G62 x81 vw80) ∧
                (∀ (vw82 : World), vS43 vw82 → B57 vw82 → vS43 vw82 ∧ B57 vw82 ∧ le56 vw82 vw82 ∧ ∃ x83 : Int × Int × Int × Int × Int × Int × Int, (.agg #[.int .i64 2, .int .i64 0, .int .i64 0, .int .i64 0, .int .i64 0, .int .i64 x51, .int .i64 x52] : Value) = .agg #[.int .i64 (x83.1), .int .i64 (x83.2.1), .int .i64 (x83.2.2.1), .int .i64 (x83.2.2.2.1), .int .i64 (x83.2.2.2.2.1), .int .i64 (x83.2.2.2.2.2.1), .int .i64 (x83.2.2.2.2.2.2)] ∧ G66 x83 vw82) ∧
                (∀ (vw84 : World), vS43 vw84 → B57 vw84 → vS43 vw84 ∧ B57 vw84 ∧ le56 vw84 vw84 ∧ ∃ x85 : Int × Int × Int × Int × Int × Int × Int, (.agg #[.int .i64 2, .int .i64 0, .int .i64 0, .int .i64 0, .int .i64 0, .int .i64 x54, .int .i64 x55] : Value) = .agg #[.int .i64 (x85.1), .int .i64 (x85.2.1), .int .i64 (x85.2.2.1), .int .i64 (x85.2.2.2.1), .int .i64 (x85.2.2.2.2.1), .int .i64 (x85.2.2.2.2.2.1), .int .i64 (x85.2.2.2.2.2.2)] ∧ G70 x85 vw84) ∧
                (∀ (vw86 : World), vS43 vw86 → B57 vw86 → vS43 vw86 ∧ B57 vw86 ∧ le56 vw86 vw86 ∧ ∃ x87 : Int × Int × Int × Int × Int × Int × Int, (.agg #[.int .i64 4, .int .i64 0, .int .i64 0, .int .i64 0, .int .i64 0, .int .i64 0, .int .i64 0] : Value) = .agg #[.int .i64 (x87.1), .int .i64 (x87.2.1), .int .i64 (x87.2.2.1), .int .i64 (x87.2.2.2.1), .int .i64 (x87.2.2.2.2.1), .int .i64 (x87.2.2.2.2.2.1), .int .i64 (x87.2.2.2.2.2.2)] ∧ G74 x87 vw86) ∧
                True) ∧
                (∀ (vw88 : World), vS43 vw88 → B57 vw88 → ∀ (x89 : Int × Int × Int × Int × Int × Int × Int), G58 x89 vw88 → ∀ (x90 : Int × Int × Int × Int × Int × Int × Int), G62 x90 vw88 → ∀ (x91 : Int × Int × Int × Int × Int × Int × Int), G66 x91 vw88 → ∀ (x92 : Int × Int × Int × Int × Int × Int × Int), G70 x92 vw88 → ∀ (x93 : Int × Int × Int × Int × Int × Int × Int), G74 x93 vw88 → Nw vw88 (.cells #[.int .i64 (x89.1), .int .i64 (x89.2.1), .int .i64 (x89.2.2.1), .int .i64 (x89.2.2.2.1), .int .i64 (x89.2.2.2.2.1), .int .i64 (x89.2.2.2.2.2.1), .int .i64 (x89.2.2.2.2.2.2), .int .i64 (x90.1), .int .i64 (x90.2.1), .int .i64 (x90.2.2.1), .int .i64 (x90.2.2.2.1), .int .i64 (x90.2.2.2.2.1), .int .i64 (x90.2.2.2.2.2.1), .int .i64 (x90.2.2.2.2.2.2), .int .i64 (x91.1), .int .i64 (x91.2.1), .int .i64 (x91.2.2.1), .int .i64 (x91.2.2.2.1), .int .i64 (x91.2.2.2.2.1), .int .i64 (x91.2.2.2.2.2.1), .int .i64 (x91.2.2.2.2.2.2), .int .i64 (x92.1), .int .i64 (x92.2.1), .int .i64 (x92.2.2.1), .int .i64 (x92.2.2.2.1), .int .i64 (x92.2.2.2.2.1), .int .i64 (x92.2.2.2.2.2.1), .int .i64 (x92.2.2.2.2.2.2), .int .i64 (x93.1), .int .i64 (x93.2.1), .int .i64 (x93.2.2.1), .int .i64 (x93.2.2.2.1), .int .i64 (x93.2.2.2.2.1), .int .i64 (x93.2.2.2.2.2.1), .int .i64 (x93.2.2.2.2.2.2)] 67) fun vw94 =>
                  R (⟨some ⟨vw88.heap.size, 0, none⟩, 5, 5⟩ : Slc) vw94)) (R (⟨none, 0, 0⟩ : Slc) vw4)))))))
def pl102 : Plan := (.seq (.reg .seq) (.seq (.seq (.reg .seq) (.block (.seq (.reg .seq) (.cond (.seq (.reg .seq) .leaf) (.seq (.reg .seq) (.cond (.seq (.reg .seq) .leaf) (.seq (.reg .seq) (.cond (.seq (.reg (.tail 9)) .leaf) (.seq (.reg .seq) (.cond (.seq (.reg (.tail 7)) .leaf) (.seq (.reg .seq) (.cond (.seq (.reg (.tail 9)) .leaf) (.seq (.reg .seq) (.cond (.seq (.reg .seq) .leaf) (.seq (.reg .seq) (.cond (.seq (.reg (.held [17] (.take 0 (.take 1 (.take 2 (.take 4 (.take 5 (.take 6 (.take 8 (.take 9 (.take 10 (.take 12 (.take 13 (.take 14 (.mono [3, 7, 11, 15, 16] (.eff 17 (some []) (.take 18 .done))))))))))))))))) .leaf) .leaf)))))))))))))))) (.seq (.reg .seq) .leaf)))
set_option maxRecDepth 100000 in
theorem T102 (name1 : ByteArray) (p2 : Slc) (here3 : Int × Int) (w : World) (R : Slc → World → Prop) (h : S102 name1 p2 here3 w R) : C102 name1 p2 (here3.1, here3.2) w R := by
  have e : fnT Tryd.prog ⟨FF, MAY, (fun _ _ => False)⟩ pl102 Tryd.f102 [.string name1, Slc.v p2, .agg #[.int .i64 (here3.1), .int .i64 (here3.2)]] w [(.one .slc)] (fun s w => R s w) = S102 name1 p2 here3 w R := by kernel_rfl
  exact (fn_calls okF okM Tryd.func102 (by kernel_rfl) (by kernel_rfl) (e.mpr h)).mono fun _ _ ⟨s, he, hR⟩ => ⟨s, he, hR⟩

def S38J1 (w : World) (vw4 : World) (vw6 : World) (s115 : Slc × Int) (vw116 : World) (R : (Slc × Bool) → Int → World → Prop) (s158 : Unit) (vw159 : World) : Prop :=
  Ld vw159 (⟨vw4.heap.size, 0, none⟩ : Addr) Value.string fun (x160 : ByteArray) =>
  Ld vw159 (⟨vw116.heap.size, 0, none⟩ : Addr) (Value.int .i64) fun (x161 : Int) =>
  Ld vw159 ((⟨vw116.heap.size, 0, none⟩ : Addr).add 1) (Value.int .i64) fun (x162 : Int) =>
  C102 x160 s115.1 (x161, x162) vw159 fun r163 vw164 =>
    Ld vw164 (⟨w.heap.size, 0, none⟩ : Addr) Slc.v fun (x170 : Slc) =>
    Br (decide ((IntKind.i64.wrap (((x170.len : Nat) : Int) + ((r163.len : Nat) : Int))) > 8192)) (Ld vw164 (⟨w.heap.size, 0, none⟩ : Addr) Slc.v fun (x171 : Slc) =>
      Ld vw164 ((⟨w.heap.size, 0, none⟩ : Addr).add 1) Value.bool fun (x172 : Bool) =>
      St vw164 (⟨vw6.heap.size, 0, none⟩ : Addr) (Slc.v x171) fun vw173 =>
      St vw173 ((⟨vw6.heap.size, 0, none⟩ : Addr).add 1) (.bool x172) fun vw174 =>
      Ld vw174 (⟨vw6.heap.size, 0, none⟩ : Addr) Slc.v fun (x175 : Slc) =>
      Ld vw174 ((⟨vw6.heap.size, 0, none⟩ : Addr).add 1) Value.bool fun (x176 : Bool) =>
      R (x175, x176) 6 vw174) (∃ vS177 : World → Prop, vS177 vw164.drew ∧ LdS vS177 (⟨w.heap.size, 0, none⟩ : Addr) Slc.v fun (x178 : Slc) =>
      LdS vS177 ((⟨w.heap.size, 0, none⟩ : Addr).add 1) Value.bool fun (x179 : Bool) =>
      Nw vw164.drew (.cells #[] 67) fun vw180 =>
      vS177 vw180 ∧ Rn Tryd.prog (Builtin.append_ #[64, 64] 64 #[Slc.v ((⟨some ⟨vw164.drew.heap.size, 0, none⟩, 0, 0⟩ : Slc)), Slc.v x178]) vw180 Slc.v fun (x181 : Slc) vw182 =>
      vS177 vw182 ∧ Rn Tryd.prog (Builtin.append_ #[64, 64] 64 #[Slc.v x181, Slc.v r163]) vw182 Slc.v fun (x183 : Slc) vw184 =>
      vS177 vw184 ∧ Br x179 (St vw184 (⟨vw6.heap.size, 0, none⟩ : Addr) (Slc.v x183) fun vw185 =>
        St vw185 ((⟨vw6.heap.size, 0, none⟩ : Addr).add 1) (.bool true) fun vw186 =>
        Ld vw186 (⟨vw6.heap.size, 0, none⟩ : Addr) Slc.v fun (x187 : Slc) =>
        Ld vw186 ((⟨vw6.heap.size, 0, none⟩ : Addr).add 1) Value.bool fun (x188 : Bool) =>
        R (x187, x188) 0 vw186) (LdS vS177 (⟨vw4.heap.size, 0, none⟩ : Addr) Value.string fun (x189 : ByteArray) =>
        Br (x189.toList == (⟨#[87]⟩ : ByteArray).toList) (St vw184 (⟨vw6.heap.size, 0, none⟩ : Addr) (Slc.v x183) fun vw190 =>
          St vw190 ((⟨vw6.heap.size, 0, none⟩ : Addr).add 1) (.bool true) fun vw191 =>
          Ld vw191 (⟨vw6.heap.size, 0, none⟩ : Addr) Slc.v fun (x192 : Slc) =>
          Ld vw191 ((⟨vw6.heap.size, 0, none⟩ : Addr).add 1) Value.bool fun (x193 : Bool) =>
          R (x192, x193) 0 vw191) (LdS vS177 (⟨vw4.heap.size, 0, none⟩ : Addr) Value.string fun (x194 : ByteArray) =>
          St vw184 (⟨vw6.heap.size, 0, none⟩ : Addr) (Slc.v x183) fun vw195 =>
          St vw195 ((⟨vw6.heap.size, 0, none⟩ : Addr).add 1) (.bool ((x194.toList == (⟨#[87, 42]⟩ : ByteArray).toList))) fun vw196 =>
          Ld vw196 (⟨vw6.heap.size, 0, none⟩ : Addr) Slc.v fun (x197 : Slc) =>
          Ld vw196 ((⟨vw6.heap.size, 0, none⟩ : Addr).add 1) Value.bool fun (x198 : Bool) =>
          R (x197, x198) 0 vw196)))
def S38L1 (w : World) (vw4 : World) (vw5 : World) (vw6 : World) (r70 : Slc) (R : (Slc × Bool) → Int → World → Prop) (I117 : (Slc × Int) → World → Prop) (s115 : Slc × Int) (vw116 : World) : Prop :=
  Br (decide (s115.2 < ((r70.len : Nat) : Int))) (0 ≤ s115.2 ∧ s115.2 < (r70.len : Nat) ∧ Nn r70.p fun a118 =>
    Ld vw116 (a118.add ((s115.2).toNat * 2)) (Value.int .i64) fun (x119 : Int) =>
    Ld vw116 ((a118.add ((s115.2).toNat * 2)).add 1) (Value.int .i64) fun (x120 : Int) =>
    Nw vw116 (.cells #[.int .i64 0, .int .i64 0] 43) fun vw121 =>
    St vw121 (⟨vw116.heap.size, 0, none⟩ : Addr) (.int .i64 x119) fun vw122 =>
    St vw122 ((⟨vw116.heap.size, 0, none⟩ : Addr).add 1) (.int .i64 x120) fun vw123 =>
    Ld vw123 (⟨vw5.heap.size, 0, none⟩ : Addr) (Value.int .i64) fun (x124 : Int) =>
    Ld vw123 ((⟨vw5.heap.size, 0, none⟩ : Addr).add 1) (Value.int .i64) fun (x125 : Int) =>
    Ld vw123 ((⟨vw5.heap.size, 0, none⟩ : Addr).add 2) (Value.int .i64) fun (x126 : Int) =>
    Ld vw123 ((⟨vw5.heap.size, 0, none⟩ : Addr).add 3) (Value.int .i64) fun (x127 : Int) =>
    Ld vw123 ((⟨vw5.heap.size, 0, none⟩ : Addr).add 4) (Value.int .i64) fun (x128 : Int) =>
    Ld vw123 ((⟨vw5.heap.size, 0, none⟩ : Addr).add 5) (Value.int .i64) fun (x129 : Int) =>
    Ld vw123 (⟨vw116.heap.size, 0, none⟩ : Addr) (Value.int .i64) fun (x130 : Int) =>
    Ld vw123 ((⟨vw116.heap.size, 0, none⟩ : Addr).add 1) (Value.int .i64) fun (x131 : Int) =>
    C45 (x124, x125, x126, x127, x128, x129) (x130, x131) vw123 fun r132 r133 vw134 =>
      Nw vw134 (.cells #[.int .i64 0, .int .i64 0] 43) fun vw135 =>
      St vw135 (⟨vw134.heap.size, 0, none⟩ : Addr) (.int .i64 (r132.1)) fun vw136 =>
      St vw136 ((⟨vw134.heap.size, 0, none⟩ : Addr).add 1) (.int .i64 (r132.2)) fun vw137 =>
      Br (r133 != 0) (Ld vw137 (⟨w.heap.size, 0, none⟩ : Addr) Slc.v fun (x138 : Slc) =>
        Ld vw137 ((⟨w.heap.size, 0, none⟩ : Addr).add 1) Value.bool fun (x139 : Bool) =>
        St vw137 (⟨vw6.heap.size, 0, none⟩ : Addr) (Slc.v x138) fun vw140 =>
        St vw140 ((⟨vw6.heap.size, 0, none⟩ : Addr).add 1) (.bool x139) fun vw141 =>
        Ld vw141 (⟨vw6.heap.size, 0, none⟩ : Addr) Slc.v fun (x142 : Slc) =>
        Ld vw141 ((⟨vw6.heap.size, 0, none⟩ : Addr).add 1) Value.bool fun (x143 : Bool) =>
        R (x142, x143) r133 vw141) (Ld vw137 (⟨vw134.heap.size, 0, none⟩ : Addr) (Value.int .i64) fun (x144 : Int) =>
        Ld vw137 ((⟨vw134.heap.size, 0, none⟩ : Addr).add 1) (Value.int .i64) fun (x145 : Int) =>
        Nw vw137 (.cells #[.int .i64 x144, .int .i64 x145] 43) fun vw146 =>
        Rn Tryd.prog (Builtin.append_ #[164, 164] 164 #[Slc.v s115.1, Slc.v ((⟨some ⟨vw137.heap.size, 0, none⟩, 1, 1⟩ : Slc))]) vw146 Slc.v fun (x147 : Slc) vw148 =>
        I117 (x147, IntKind.i64.wrap (s115.2 + 1)) vw148)) (Nw vw116 (.cells #[.int .i64 0, .int .i64 0] 43) fun vw149 =>
    St vw149 (⟨vw116.heap.size, 0, none⟩ : Addr) (.int .i64 0) fun vw150 =>
    St vw150 ((⟨vw116.heap.size, 0, none⟩ : Addr).add 1) (.int .i64 0) fun vw151 =>
    Join (S38J1 w vw4 vw6 s115 vw116 R) fun (vJ199 : Unit → World → Prop) =>
      Ld vw151 (⟨w.heap.size, 0, none⟩ : Addr) Slc.v fun (x200 : Slc) =>
      Br (decide (((x200.len : Nat) : Int) > 0)) (Ld vw151 (⟨w.heap.size, 0, none⟩ : Addr) Slc.v fun (x201 : Slc) =>
        C101 x201 vw151 fun r202 vw203 =>
          St vw203 (⟨vw116.heap.size, 0, none⟩ : Addr) (.int .i64 (r202.1)) fun vw204 =>
          St vw204 ((⟨vw116.heap.size, 0, none⟩ : Addr).add 1) (.int .i64 (r202.2)) fun vw205 =>
          vJ199 () vw205) (vJ199 () vw151))
def S38J2 (w : World) (vw4 : World) (vw5 : World) (vw6 : World) (R : (Slc × Bool) → Int → World → Prop) (s51 : Unit) (vw52 : World) : Prop :=
  Ld vw52 (⟨vw4.heap.size, 0, none⟩ : Addr) Value.string fun (x53 : ByteArray) =>
  Ld vw52 ((⟨vw4.heap.size, 0, none⟩ : Addr).add 1) Slc.v fun (x54 : Slc) =>
  Ld vw52 ((⟨vw4.heap.size, 0, none⟩ : Addr).add 2) Value.string fun (x55 : ByteArray) =>
  C99 (x53, x54, x55) vw52 fun r56 r57 vw58 =>
    Br (r57 != 0) (Ld vw58 (⟨w.heap.size, 0, none⟩ : Addr) Slc.v fun (x63 : Slc) =>
      Ld vw58 ((⟨w.heap.size, 0, none⟩ : Addr).add 1) Value.bool fun (x64 : Bool) =>
      St vw58 (⟨vw6.heap.size, 0, none⟩ : Addr) (Slc.v x63) fun vw65 =>
      St vw65 ((⟨vw6.heap.size, 0, none⟩ : Addr).add 1) (.bool x64) fun vw66 =>
      Ld vw66 (⟨vw6.heap.size, 0, none⟩ : Addr) Slc.v fun (x67 : Slc) =>
      Ld vw66 ((⟨vw6.heap.size, 0, none⟩ : Addr).add 1) Value.bool fun (x68 : Bool) =>
      R (x67, x68) r57 vw66) (Ld vw58 (⟨vw4.heap.size, 0, none⟩ : Addr) Value.string fun (x69 : ByteArray) =>
      C100 x69 r56 vw58 fun r70 r71 vw72 =>
        Br (r71 != 0) (Ld vw72 (⟨w.heap.size, 0, none⟩ : Addr) Slc.v fun (x77 : Slc) =>
          Ld vw72 ((⟨w.heap.size, 0, none⟩ : Addr).add 1) Value.bool fun (x78 : Bool) =>
          St vw72 (⟨vw6.heap.size, 0, none⟩ : Addr) (Slc.v x77) fun vw79 =>
          St vw79 ((⟨vw6.heap.size, 0, none⟩ : Addr).add 1) (.bool x78) fun vw80 =>
          Ld vw80 (⟨vw6.heap.size, 0, none⟩ : Addr) Slc.v fun (x81 : Slc) =>
          Ld vw80 ((⟨vw6.heap.size, 0, none⟩ : Addr).add 1) Value.bool fun (x82 : Bool) =>
          R (x81, x82) r71 vw80) (Lp (σ := Slc × Int) (S38L1 w vw4 vw5 vw6 r70 R) ((⟨none, 0, 0⟩ : Slc), 0) vw72))
/-- foliant/foliantref45.Do -/
def S38 (x1 : Slc × Bool) (o2 : ByteArray × Slc × ByteArray) (m3 : Int × Int × Int × Int × Int × Int) (w : World) (R : (Slc × Bool) → Int → World → Prop) : Prop :=
  Nw w (.cells #[Slc.v x1.1, .bool x1.2] 86) fun vw4 =>
  Nw vw4 (.cells #[.string o2.1, Slc.v o2.2.1, .string o2.2.2] 63) fun vw5 =>
  Nw vw5 (.cells #[.int .i64 (m3.1), .int .i64 (m3.2.1), .int .i64 (m3.2.2.1), .int .i64 (m3.2.2.2.1), .int .i64 (m3.2.2.2.2.1), .int .i64 (m3.2.2.2.2.2)] 23) fun vw6 =>
  Nw vw6 (.cells #[Slc.v ((⟨none, 0, 0⟩ : Slc)), .bool false] 86) fun vw7 =>
  Ld vw7 (⟨vw4.heap.size, 0, none⟩ : Addr) Value.string fun (x15 : ByteArray) =>
  C98 x15 vw7 fun r16 vw17 =>
    Br (!r16) (Ld vw17 (⟨w.heap.size, 0, none⟩ : Addr) Slc.v fun (x18 : Slc) =>
      Ld vw17 ((⟨w.heap.size, 0, none⟩ : Addr).add 1) Value.bool fun (x19 : Bool) =>
      St vw17 (⟨vw6.heap.size, 0, none⟩ : Addr) (Slc.v x18) fun vw20 =>
      St vw20 ((⟨vw6.heap.size, 0, none⟩ : Addr).add 1) (.bool x19) fun vw21 =>
      Ld vw21 (⟨vw6.heap.size, 0, none⟩ : Addr) Slc.v fun (x22 : Slc) =>
      Ld vw21 ((⟨vw6.heap.size, 0, none⟩ : Addr).add 1) Value.bool fun (x23 : Bool) =>
      R (x22, x23) 8 vw21) (Ld vw17 (⟨vw4.heap.size, 0, none⟩ : Addr) Value.string fun (x33 : ByteArray) =>
      Ld vw17 ((⟨vw4.heap.size, 0, none⟩ : Addr).add 1) Slc.v fun (x34 : Slc) =>
      Ld vw17 ((⟨vw4.heap.size, 0, none⟩ : Addr).add 2) Value.string fun (x35 : ByteArray) =>
      C43 (x33, x34, x35) vw17 fun r36 vw37 =>
        Br (r36 != 0) (Ld vw37 (⟨w.heap.size, 0, none⟩ : Addr) Slc.v fun (x38 : Slc) =>
          Ld vw37 ((⟨w.heap.size, 0, none⟩ : Addr).add 1) Value.bool fun (x39 : Bool) =>
          St vw37 (⟨vw6.heap.size, 0, none⟩ : Addr) (Slc.v x38) fun vw40 =>
          St vw40 ((⟨vw6.heap.size, 0, none⟩ : Addr).add 1) (.bool x39) fun vw41 =>
          Ld vw41 (⟨vw6.heap.size, 0, none⟩ : Addr) Slc.v fun (x42 : Slc) =>
          Ld vw41 ((⟨vw6.heap.size, 0, none⟩ : Addr).add 1) Value.bool fun (x43 : Bool) =>
          R (x42, x43) r36 vw41) (Join (S38J2 w vw4 vw5 vw6 R) fun (vJ206 : Unit → World → Prop) =>
            Ld vw37 (⟨w.heap.size, 0, none⟩ : Addr) Slc.v fun (x207 : Slc) =>
            Br (((x207.len : Nat) : Int) == 0) (Ld vw37 (⟨vw4.heap.size, 0, none⟩ : Addr) Value.string fun (x208 : ByteArray) =>
              Br (!(x208.toList == (⟨#[109]⟩ : ByteArray).toList)) (Ld vw37 (⟨vw4.heap.size, 0, none⟩ : Addr) Value.string fun (x209 : ByteArray) =>
                Br (!(x209.toList == (⟨#[114, 101]⟩ : ByteArray).toList)) (Ld vw37 (⟨w.heap.size, 0, none⟩ : Addr) Slc.v fun (x210 : Slc) =>
                  Ld vw37 ((⟨w.heap.size, 0, none⟩ : Addr).add 1) Value.bool fun (x211 : Bool) =>
                  St vw37 (⟨vw6.heap.size, 0, none⟩ : Addr) (Slc.v x210) fun vw212 =>
                  St vw212 ((⟨vw6.heap.size, 0, none⟩ : Addr).add 1) (.bool x211) fun vw213 =>
                  Ld vw213 (⟨vw6.heap.size, 0, none⟩ : Addr) Slc.v fun (x214 : Slc) =>
                  Ld vw213 ((⟨vw6.heap.size, 0, none⟩ : Addr).add 1) Value.bool fun (x215 : Bool) =>
                  R (x214, x215) 29 vw213) (vJ206 () vw37)) (vJ206 () vw37)) (vJ206 () vw37)))
def pl38 : Plan := (.seq (.reg .seq) (.seq (.seq (.reg .seq) (.cond (.seq (.reg .seq) .leaf) .leaf)) (.seq (.seq (.reg .seq) (.seq (.reg .seq) (.cond (.seq (.reg .seq) .leaf) .leaf))) (.join [] [3, 4, 5, 6] (.seq (.reg .seq) (.cond (.seq (.reg .seq) .leaf) .leaf)) (.seq (.reg .seq) (.seq (.seq (.reg .seq) (.cond (.seq (.reg .seq) .leaf) .leaf)) (.seq (.reg .seq) (.seq (.seq (.reg .seq) (.cond (.seq (.reg .seq) .leaf) .leaf)) (.seq (.reg .seq) (.seq (.seq (.reg .seq) (.block (.loop [(13, (.one .slc)), (68, (.one (.int .i64)))] [3, 4, 5, 6, 66, 67] (.seq (.reg .seq) (.seq (.cond .leaf .leaf) (.seq (.block (.seq (.reg .seq) (.seq (.reg .seq) (.seq (.seq (.reg .seq) (.cond (.seq (.reg .seq) .leaf) .leaf)) (.reg .seq))))) (.reg .seq))))))) (.seq (.reg .seq) (.join [] [3, 4, 6, 13, 18] (.seq (.reg .seq) (.cond (.reg .seq) .leaf)) (.seq (.reg .seq) (.seq (.seq (.reg .seq) (.cond (.seq (.reg .seq) .leaf) .leaf)) (.seq (.reg (.held [18] (.take 1 (.take 2 (.take 4 (.take 6 (.take 7 (.eff 0 none (.eff 3 none (.eff 5 none (.take 8 (.take 9 (.take 10 (.take 11 (.take 12 (.take 13 (.take 14 (.take 15 (.take 16 (.take 17 (.eff 18 (some [19]) (.eff 19 (some []) (.take 20 .done))))))))))))))))))))))) .leaf)))))))))))))))
set_option maxRecDepth 100000 in
theorem T38 (x1 : Slc × Bool) (o2 : ByteArray × Slc × ByteArray) (m3 : Int × Int × Int × Int × Int × Int) (w : World) (R : (Slc × Bool) → Int → World → Prop) (h : S38 x1 o2 m3 w R) : C38 (x1.1, x1.2) (o2.1, o2.2.1, o2.2.2) (m3.1, m3.2.1, m3.2.2.1, m3.2.2.2.1, m3.2.2.2.2.1, m3.2.2.2.2.2) w R := by
  have e : fnT Tryd.prog ⟨FF, MAY, (fun _ _ => False)⟩ pl38 Tryd.f38 [.agg #[Slc.v x1.1, .bool x1.2], .agg #[.string o2.1, Slc.v o2.2.1, .string o2.2.2], .agg #[.int .i64 (m3.1), .int .i64 (m3.2.1), .int .i64 (m3.2.2.1), .int .i64 (m3.2.2.2.1), .int .i64 (m3.2.2.2.2.1), .int .i64 (m3.2.2.2.2.2)]] w [(.agg [.slc, .bool]), (.one (.int .i64))] (fun s w => R s.1 s.2 w) = S38 x1 o2 m3 w R := by kernel_rfl
  exact (fn_calls okF okM Tryd.func38 (by kernel_rfl) (by kernel_rfl) (e.mpr h)).mono fun _ _ ⟨s, he, hR⟩ => ⟨s.1, s.2, he, hR⟩

def S103L1 (l1 : Slc) (R : Slc → World → Prop) (I4 : (Slc × Int) → World → Prop) (s2 : Slc × Int) (vw3 : World) : Prop :=
  Br (decide (s2.2 < ((l1.len : Nat) : Int))) (0 ≤ s2.2 ∧ s2.2 < (l1.len : Nat) ∧ Nn l1.p fun a5 =>
    Ld vw3 (a5.add ((s2.2).toNat * 7)) (Value.int .i64) fun (x6 : Int) =>
    Ld vw3 ((a5.add ((s2.2).toNat * 7)).add 1) (Value.int .i64) fun (x7 : Int) =>
    Ld vw3 ((a5.add ((s2.2).toNat * 7)).add 2) (Value.int .i64) fun (x8 : Int) =>
    Ld vw3 ((a5.add ((s2.2).toNat * 7)).add 3) (Value.int .i64) fun (x9 : Int) =>
    Ld vw3 ((a5.add ((s2.2).toNat * 7)).add 4) (Value.int .i64) fun (x10 : Int) =>
    Ld vw3 ((a5.add ((s2.2).toNat * 7)).add 5) (Value.int .i64) fun (x11 : Int) =>
    Ld vw3 ((a5.add ((s2.2).toNat * 7)).add 6) (Value.int .i64) fun (x12 : Int) =>
    Nw vw3 (.cells #[.int .i64 0, .int .i64 0, .int .i64 0, .int .i64 0, .int .i64 0, .int .i64 0, .int .i64 0] 67) fun vw13 =>
    St vw13 (⟨vw3.heap.size, 0, none⟩ : Addr) (.int .i64 x6) fun vw14 =>
    St vw14 ((⟨vw3.heap.size, 0, none⟩ : Addr).add 1) (.int .i64 x7) fun vw15 =>
    St vw15 ((⟨vw3.heap.size, 0, none⟩ : Addr).add 2) (.int .i64 x8) fun vw16 =>
    St vw16 ((⟨vw3.heap.size, 0, none⟩ : Addr).add 3) (.int .i64 x9) fun vw17 =>
    St vw17 ((⟨vw3.heap.size, 0, none⟩ : Addr).add 4) (.int .i64 x10) fun vw18 =>
    St vw18 ((⟨vw3.heap.size, 0, none⟩ : Addr).add 5) (.int .i64 x11) fun vw19 =>
    St vw19 ((⟨vw3.heap.size, 0, none⟩ : Addr).add 6) (.int .i64 x12) fun vw20 =>
    Ld vw20 (⟨vw3.heap.size, 0, none⟩ : Addr) (Value.int .i64) fun (x29 : Int) =>
    Br (x29 == 3) (Ld vw20 ((⟨vw3.heap.size, 0, none⟩ : Addr).add 1) (Value.int .i64) fun (x30 : Int) =>
      Ld vw20 (((⟨vw3.heap.size, 0, none⟩ : Addr).add 1).add 1) (Value.int .i64) fun (x31 : Int) =>
      Ld vw20 ((⟨vw3.heap.size, 0, none⟩ : Addr).add 3) (Value.int .i64) fun (x32 : Int) =>
      Ld vw20 (((⟨vw3.heap.size, 0, none⟩ : Addr).add 3).add 1) (Value.int .i64) fun (x33 : Int) =>
      Nw vw20 (.cells #[.int .i64 x30, .int .i64 x31, .int .i64 x32, .int .i64 x33] 43) fun vw34 =>
      Rn Tryd.prog (Builtin.append_ #[164, 164] 164 #[Slc.v s2.1, Slc.v ((⟨some ⟨vw20.heap.size, 0, none⟩, 2, 2⟩ : Slc))]) vw34 Slc.v fun (x35 : Slc) vw36 =>
      Ld vw36 (⟨vw3.heap.size, 0, none⟩ : Addr) (Value.int .i64) fun (x37 : Int) =>
      Br (x37 == 1) (Ld vw36 ((⟨vw3.heap.size, 0, none⟩ : Addr).add 5) (Value.int .i64) fun (x38 : Int) =>
        Ld vw36 (((⟨vw3.heap.size, 0, none⟩ : Addr).add 5).add 1) (Value.int .i64) fun (x39 : Int) =>
        Nw vw36 (.cells #[.int .i64 x38, .int .i64 x39] 43) fun vw40 =>
        Rn Tryd.prog (Builtin.append_ #[164, 164] 164 #[Slc.v x35, Slc.v ((⟨some ⟨vw36.heap.size, 0, none⟩, 1, 1⟩ : Slc))]) vw40 Slc.v fun (x41 : Slc) vw42 =>
        I4 (x41, IntKind.i64.wrap (s2.2 + 1)) vw42) (Ld vw36 (⟨vw3.heap.size, 0, none⟩ : Addr) (Value.int .i64) fun (x43 : Int) =>
        Br (x43 == 2) (Ld vw36 ((⟨vw3.heap.size, 0, none⟩ : Addr).add 5) (Value.int .i64) fun (x44 : Int) =>
          Ld vw36 (((⟨vw3.heap.size, 0, none⟩ : Addr).add 5).add 1) (Value.int .i64) fun (x45 : Int) =>
          Nw vw36 (.cells #[.int .i64 x44, .int .i64 x45] 43) fun vw46 =>
          Rn Tryd.prog (Builtin.append_ #[164, 164] 164 #[Slc.v x35, Slc.v ((⟨some ⟨vw36.heap.size, 0, none⟩, 1, 1⟩ : Slc))]) vw46 Slc.v fun (x47 : Slc) vw48 =>
          I4 (x47, IntKind.i64.wrap (s2.2 + 1)) vw48) (Ld vw36 (⟨vw3.heap.size, 0, none⟩ : Addr) (Value.int .i64) fun (x49 : Int) =>
          Br (x49 == 3) (Ld vw36 ((⟨vw3.heap.size, 0, none⟩ : Addr).add 5) (Value.int .i64) fun (x50 : Int) =>
            Ld vw36 (((⟨vw3.heap.size, 0, none⟩ : Addr).add 5).add 1) (Value.int .i64) fun (x51 : Int) =>
            Nw vw36 (.cells #[.int .i64 x50, .int .i64 x51] 43) fun vw52 =>
            Rn Tryd.prog (Builtin.append_ #[164, 164] 164 #[Slc.v x35, Slc.v ((⟨some ⟨vw36.heap.size, 0, none⟩, 1, 1⟩ : Slc))]) vw52 Slc.v fun (x53 : Slc) vw54 =>
            I4 (x53, IntKind.i64.wrap (s2.2 + 1)) vw54) (I4 (x35, IntKind.i64.wrap (s2.2 + 1)) vw36)))) (Ld vw20 (⟨vw3.heap.size, 0, none⟩ : Addr) (Value.int .i64) fun (x55 : Int) =>
      Br (x55 == 1) (Ld vw20 ((⟨vw3.heap.size, 0, none⟩ : Addr).add 5) (Value.int .i64) fun (x56 : Int) =>
        Ld vw20 (((⟨vw3.heap.size, 0, none⟩ : Addr).add 5).add 1) (Value.int .i64) fun (x57 : Int) =>
        Nw vw20 (.cells #[.int .i64 x56, .int .i64 x57] 43) fun vw58 =>
        Rn Tryd.prog (Builtin.append_ #[164, 164] 164 #[Slc.v s2.1, Slc.v ((⟨some ⟨vw20.heap.size, 0, none⟩, 1, 1⟩ : Slc))]) vw58 Slc.v fun (x59 : Slc) vw60 =>
        I4 (x59, IntKind.i64.wrap (s2.2 + 1)) vw60) (Ld vw20 (⟨vw3.heap.size, 0, none⟩ : Addr) (Value.int .i64) fun (x61 : Int) =>
        Br (x61 == 2) (Ld vw20 ((⟨vw3.heap.size, 0, none⟩ : Addr).add 5) (Value.int .i64) fun (x62 : Int) =>
          Ld vw20 (((⟨vw3.heap.size, 0, none⟩ : Addr).add 5).add 1) (Value.int .i64) fun (x63 : Int) =>
          Nw vw20 (.cells #[.int .i64 x62, .int .i64 x63] 43) fun vw64 =>
          Rn Tryd.prog (Builtin.append_ #[164, 164] 164 #[Slc.v s2.1, Slc.v ((⟨some ⟨vw20.heap.size, 0, none⟩, 1, 1⟩ : Slc))]) vw64 Slc.v fun (x65 : Slc) vw66 =>
          I4 (x65, IntKind.i64.wrap (s2.2 + 1)) vw66) (Ld vw20 (⟨vw3.heap.size, 0, none⟩ : Addr) (Value.int .i64) fun (x67 : Int) =>
          Br (x67 == 3) (Ld vw20 ((⟨vw3.heap.size, 0, none⟩ : Addr).add 5) (Value.int .i64) fun (x68 : Int) =>
            Ld vw20 (((⟨vw3.heap.size, 0, none⟩ : Addr).add 5).add 1) (Value.int .i64) fun (x69 : Int) =>
            Nw vw20 (.cells #[.int .i64 x68, .int .i64 x69] 43) fun vw70 =>
            Rn Tryd.prog (Builtin.append_ #[164, 164] 164 #[Slc.v s2.1, Slc.v ((⟨some ⟨vw20.heap.size, 0, none⟩, 1, 1⟩ : Slc))]) vw70 Slc.v fun (x71 : Slc) vw72 =>
            I4 (x71, IntKind.i64.wrap (s2.2 + 1)) vw72) (I4 (s2.1, IntKind.i64.wrap (s2.2 + 1)) vw20))))) (R s2.1 vw3)
/-- foliant/foliantref45.points -/
def S103 (l1 : Slc) (w : World) (R : Slc → World → Prop) : Prop :=
  Lp (σ := Slc × Int) (S103L1 l1 R) ((⟨none, 0, 0⟩ : Slc), 0) w
def pl103 : Plan := (.seq (.reg .seq) (.seq (.reg .seq) (.seq (.seq (.reg .seq) (.block (.loop [(3, (.one .slc)), (8, (.one (.int .i64)))] [6, 7] (.seq (.reg .seq) (.seq (.cond .leaf .leaf) (.seq (.block (.seq (.reg .seq) (.seq (.seq (.reg .seq) (.cond (.reg .seq) .leaf)) (.seq (.reg .seq) (.cond (.reg .seq) .leaf))))) (.reg .seq))))))) (.seq (.reg .seq) .leaf))))
set_option maxRecDepth 100000 in
theorem T103 (l1 : Slc) (w : World) (R : Slc → World → Prop) (h : S103 l1 w R) : C103 l1 w R := by
  have e : fnT Tryd.prog ⟨FF, MAY, (fun _ _ => False)⟩ pl103 Tryd.f103 [Slc.v l1] w [(.one .slc)] (fun s w => R s w) = S103 l1 w R := by kernel_rfl
  exact (fn_calls okF okM Tryd.func103 (by kernel_rfl) (by kernel_rfl) (e.mpr h)).mono fun _ _ ⟨s, he, hR⟩ => ⟨s, he, hR⟩

def S39L1 (w : World) (r3 : Slc) (s36 : Addr) (R : (Int × Int × Int × Int) → Bool → World → Prop) (I40 : Int → World → Prop) (s38 : Int) (vw39 : World) : Prop :=
  Br (decide (s38 < ((r3.len : Nat) : Int))) (0 ≤ s38 ∧ s38 < (r3.len : Nat) ∧ Nn r3.p fun a41 =>
    Ld vw39 (a41.add ((s38).toNat * 2)) (Value.int .i64) fun (x42 : Int) =>
    Ld vw39 ((a41.add ((s38).toNat * 2)).add 1) (Value.int .i64) fun (x43 : Int) =>
    Nw vw39 (.cells #[.int .i64 0, .int .i64 0] 43) fun vw44 =>
    St vw44 (⟨vw39.heap.size, 0, none⟩ : Addr) (.int .i64 x42) fun vw45 =>
    St vw45 ((⟨vw39.heap.size, 0, none⟩ : Addr).add 1) (.int .i64 x43) fun vw46 =>
    Ld vw46 s36 (Value.int .i64) fun (x47 : Int) =>
    Ld vw46 (⟨vw39.heap.size, 0, none⟩ : Addr) (Value.int .i64) fun (x48 : Int) =>
    Ld vw46 (s36.add 1) (Value.int .i64) fun (x49 : Int) =>
    Ld vw46 ((⟨vw39.heap.size, 0, none⟩ : Addr).add 1) (Value.int .i64) fun (x50 : Int) =>
    Ld vw46 (s36.add 2) (Value.int .i64) fun (x51 : Int) =>
    Ld vw46 (⟨vw39.heap.size, 0, none⟩ : Addr) (Value.int .i64) fun (x52 : Int) =>
    Ld vw46 (s36.add 3) (Value.int .i64) fun (x53 : Int) =>
    Ld vw46 ((⟨vw39.heap.size, 0, none⟩ : Addr).add 1) (Value.int .i64) fun (x54 : Int) =>
    St vw46 s36 (.int .i64 (if x48 < x47 then x48 else x47)) fun vw55 =>
    St vw55 (s36.add 1) (.int .i64 (if x50 < x49 then x50 else x49)) fun vw56 =>
    St vw56 (s36.add 2) (.int .i64 (if x52 > x51 then x52 else x51)) fun vw57 =>
    St vw57 (s36.add 3) (.int .i64 (if x54 > x53 then x54 else x53)) fun vw58 =>
    I40 (IntKind.i64.wrap (s38 + 1)) vw58) (Ld vw39 s36 (Value.int .i64) fun (x59 : Int) =>
    Ld vw39 (s36.add 1) (Value.int .i64) fun (x60 : Int) =>
    Ld vw39 (s36.add 2) (Value.int .i64) fun (x61 : Int) =>
    Ld vw39 (s36.add 3) (Value.int .i64) fun (x62 : Int) =>
    St vw39 (⟨w.heap.size, 0, none⟩ : Addr) (.int .i64 x59) fun vw63 =>
    St vw63 ((⟨w.heap.size, 0, none⟩ : Addr).add 1) (.int .i64 x60) fun vw64 =>
    St vw64 ((⟨w.heap.size, 0, none⟩ : Addr).add 2) (.int .i64 x61) fun vw65 =>
    St vw65 ((⟨w.heap.size, 0, none⟩ : Addr).add 3) (.int .i64 x62) fun vw66 =>
    Ld vw66 (⟨w.heap.size, 0, none⟩ : Addr) (Value.int .i64) fun (x67 : Int) =>
    Ld vw66 ((⟨w.heap.size, 0, none⟩ : Addr).add 1) (Value.int .i64) fun (x68 : Int) =>
    Ld vw66 ((⟨w.heap.size, 0, none⟩ : Addr).add 2) (Value.int .i64) fun (x69 : Int) =>
    Ld vw66 ((⟨w.heap.size, 0, none⟩ : Addr).add 3) (Value.int .i64) fun (x70 : Int) =>
    R (x67, x68, x69, x70) true vw66)
def S39J1 (w : World) (r3 : Slc) (R : (Int × Int × Int × Int) → Bool → World → Prop) (s36 : Addr) (vw37 : World) : Prop :=
  Lp (σ := Int) (S39L1 w r3 s36 R) 0 vw37
/-- foliant/foliantref45.Box -/
def S39 (l1 : Slc) (w : World) (R : (Int × Int × Int × Int) → Bool → World → Prop) : Prop :=
  Nw w (.cells #[.int .i64 0, .int .i64 0, .int .i64 0, .int .i64 0] 72) fun vw2 =>
  C103 l1 vw2 fun r3 vw4 =>
    Br (((r3.len : Nat) : Int) == 0) (St vw4 (⟨w.heap.size, 0, none⟩ : Addr) (.int .i64 0) fun vw9 =>
      St vw9 ((⟨w.heap.size, 0, none⟩ : Addr).add 1) (.int .i64 0) fun vw10 =>
      St vw10 ((⟨w.heap.size, 0, none⟩ : Addr).add 2) (.int .i64 0) fun vw11 =>
      St vw11 ((⟨w.heap.size, 0, none⟩ : Addr).add 3) (.int .i64 0) fun vw12 =>
      Ld vw12 (⟨w.heap.size, 0, none⟩ : Addr) (Value.int .i64) fun (x13 : Int) =>
      Ld vw12 ((⟨w.heap.size, 0, none⟩ : Addr).add 1) (Value.int .i64) fun (x14 : Int) =>
      Ld vw12 ((⟨w.heap.size, 0, none⟩ : Addr).add 2) (Value.int .i64) fun (x15 : Int) =>
      Ld vw12 ((⟨w.heap.size, 0, none⟩ : Addr).add 3) (Value.int .i64) fun (x16 : Int) =>
      R (x13, x14, x15, x16) false vw12) (Join (S39J1 w r3 R) fun (vJ71 : Addr → World → Prop) =>
        ∃ vS72 : World → Prop, vS72 vw4.drew ∧ 0 ≤ (0 : Int) ∧ (0 : Int) < (r3.len : Nat) ∧ Nn r3.p fun a73 =>
        LdS vS72 (a73.add (((0 : Int)).toNat * 2)) (Value.int .i64) fun (x74 : Int) =>
        0 ≤ (0 : Int) ∧ (0 : Int) < (r3.len : Nat) ∧ Nn r3.p fun a75 =>
        LdS vS72 ((a75.add (((0 : Int)).toNat * 2)).add 1) (Value.int .i64) fun (x76 : Int) =>
        0 ≤ (0 : Int) ∧ (0 : Int) < (r3.len : Nat) ∧ Nn r3.p fun a77 =>
        LdS vS72 (a77.add (((0 : Int)).toNat * 2)) (Value.int .i64) fun (x78 : Int) =>
        0 ≤ (0 : Int) ∧ (0 : Int) < (r3.len : Nat) ∧ Nn r3.p fun a79 =>
        LdS vS72 ((a79.add (((0 : Int)).toNat * 2)).add 1) (Value.int .i64) fun (x80 : Int) =>
        (Nw vw4.drew (.cells #[.int .i64 0, .int .i64 0, .int .i64 0, .int .i64 0] 72) fun vw81 =>
          St vw81 (⟨vw4.drew.heap.size, 0, none⟩ : Addr) (.int .i64 x74) fun vw82 =>
          St vw82 ((⟨vw4.drew.heap.size, 0, none⟩ : Addr).add 1) (.int .i64 x76) fun vw83 =>
          St vw83 ((⟨vw4.drew.heap.size, 0, none⟩ : Addr).add 2) (.int .i64 x78) fun vw84 =>
          St vw84 ((⟨vw4.drew.heap.size, 0, none⟩ : Addr).add 3) (.int .i64 x80) fun vw85 =>
          vJ71 (⟨vw4.drew.heap.size, 0, none⟩ : Addr) vw85) ∧
        (Nw vw4.drew (.cells #[.int .i64 0, .int .i64 0, .int .i64 0, .int .i64 0] 72) fun vw86 =>
          vS72 vw86 ∧ St vw86 (⟨vw4.drew.heap.size, 0, none⟩ : Addr) (.int .i64 x74) fun vw87 =>
          St vw87 ((⟨vw4.drew.heap.size, 0, none⟩ : Addr).add 1) (.int .i64 x76) fun vw88 =>
          St vw88 ((⟨vw4.drew.heap.size, 0, none⟩ : Addr).add 2) (.int .i64 x78) fun vw89 =>
          St vw89 ((⟨vw4.drew.heap.size, 0, none⟩ : Addr).add 3) (.int .i64 x80) fun vw90 =>
          vJ71 (⟨vw4.drew.heap.size, 0, none⟩ : Addr) vw90))
def pl39 : Plan := (.seq (.reg .seq) (.seq (.reg .seq) (.seq (.seq (.reg .seq) (.cond (.seq (.reg .seq) .leaf) .leaf)) (.join [(5, (.one .addr))] [2, 4] (.reg (.held [16] (.take 0 (.take 1 (.take 2 (.take 3 (.take 4 (.take 5 (.take 6 (.take 7 (.take 8 (.take 9 (.take 10 (.take 11 (.take 12 (.take 13 (.take 14 (.take 15 (.effs 16 (some [17]) (.eff 17 (some [18]) (.eff 18 (some []) .done)) (.eff 17 none (.eff 16 (some [18]) (.eff 18 (some []) .done)))))))))))))))))))))) (.seq (.seq (.reg .seq) (.block (.loop [(33, (.one (.int .i64)))] [2, 5, 31, 32] (.seq (.reg .seq) (.seq (.cond .leaf .leaf) (.seq (.block (.seq (.reg .seq) (.reg .seq))) (.reg .seq))))))) (.seq (.reg .seq) .leaf))))))
set_option maxRecDepth 100000 in
theorem T39 (l1 : Slc) (w : World) (R : (Int × Int × Int × Int) → Bool → World → Prop) (h : S39 l1 w R) : C39 l1 w R := by
  have e : fnT Tryd.prog ⟨FF, MAY, (fun _ _ => False)⟩ pl39 Tryd.f39 [Slc.v l1] w [(.agg [(.int .i64), (.int .i64), (.int .i64), (.int .i64)]), (.one .bool)] (fun s w => R s.1 s.2 w) = S39 l1 w R := by kernel_rfl
  exact (fn_calls okF okM Tryd.func39 (by kernel_rfl) (by kernel_rfl) (e.mpr h)).mono fun _ _ ⟨s, he, hR⟩ => ⟨s.1, s.2, he, hR⟩

end Go.Proofs.YtjbeembbnkmpeaaDoor

/- Code inside a fence: in a round of a range over a function, and where yield is called. Conditions: as for Sh. Written by program (genshy.py) but for the head. -/
namespace Go.Proofs.YtjbeembbnkmpeaaDoor
namespace Sh
open Go.RowKit
set_option linter.unusedVariables false
/-- A call of yield, by a function that is in no round. -/
def Yl (P : Program) (l : Nat) (args : Array Value) (w : World) (K : Bool → World → Prop) : Prop := YieldAt Fence.wide 0 P l args w fun e w' => ∃ b : Bool, e = .returned (.bool b) ∧ K b w'
def ylArg (E : Env) (o : Oper) : Option (Nat × Call) := match o.guard, o.op with
  | none, .call c => match c.callee with
    | .value f => match E.rho f with
      | .func (.yield l) a b => match a.toList, b.toList with
        | [], [] => some (l, c)
        | _, _ => none
      | _ => none
    | _ => none
  | _, _ => none
def noDf : Op → Bool
  | .defer _ => false
  | _ => true
def opsY (P : Program) (F : Fx) (ops : Array Oper) : List Oper → Env → World → (Env → World → Prop) → Prop
  | [], E, w, K => K E w
  | o :: r, E, w, K => match ylArg E o with
    | some lc => match hasAll E o.op with
      | true => Yl P lc.1 (lc.2.args.map E.rho) w fun b w' => opsY P F ops r (E.put o.dst (.bool b)) w' K
      | false => False
    | none => match noDf o.op with
      | true => opsT P F false ops [o] E w fun E w => opsY P F ops r E w K
      | false => False
def regY (P : Program) (F : Fx) (m : RMode) (ops : Array Oper) (d : Bool) (E : Env) (w : World) (K : Env → World → Prop) : Prop :=
  match d, m with
  | false, .seq => opsY P F ops ops.toList E w K
  | _, _ => False
def codeY (P : Program) (F : Fx) : Plan → Code → Env → World → (Exit → Env → World → Prop) → Prop
  | .reg m, .region _ ops d, E, w, K => regY P F m ops d E w fun E w => K .normal E w
  | .leaf, .skip, E, w, K => K .normal E w
  | .leaf, .label _, E, w, K => K .normal E w
  | .leaf, .exit id, E, w, K => K (.exit id) E w
  | .leaf, .ret, E, w, K => K .ret E w
  | .seq p q, .seq c d, E, w, K => codeY P F p c E w fun e E w => match e with
    | .normal => codeY P F q d E w K
    | e => K e E w
  | .join live keep p q, .seq c d, E, w, K => match keepOk keep c with
    | true => Join (fun s w => codeY P F q d (stPut live s ++ Env.keep E keep) w K) fun J => codeY P F p c E w fun e E w => match e with
      | .normal => stGet live E fun s => J s w
      | e => K e E w
    | false => False
  | .cond p q, .cond x c d, E, w, K => match E.rho x with
    | .bool b => Br b (codeY P F p c E w K) (codeY P F q d E w K)
    | _ => False
  | .block p, .block id c, E, w, K => codeY P F p c E w fun e E w => match e with
    | .exit i => match Nat.beq i id with
      | true => K .normal E w
      | false => K (.exit i) E w
    | e => K e E w
  | .loop live keep p, .loop c, E, w, K => match keepOk keep c with
    | true => stGet live E fun s0 => Lp (fun R s w => codeY P F p c (stPut live s ++ Env.keep E keep) w fun e E w => match e with
      | .normal => stGet live E fun s => R s w
      | e => K e E w) s0 w
    | false => False
  | _, _, _, _, _ => False


/-- A fence that keeps nothing out: the wide one, and it in a round. -/
structure InF (G : Fence) : Prop where
  fn : ∀ f, G.fn f
  dep : G.depth = none
  call : ∀ {P : Program} {f : FuncId} {args : Array Value} {w : World} {R : Ending → World → Prop}, Calls P f args w R → CallsIn G 0 P f args w R
  round : ∀ {P : Program} {l : Nat} {f : FuncId} {tmps : Array Value} {a b : Code} {w : World} {R : Ending → World → Prop}, RoundIn Fence.wide 0 P l f tmps a b w R → RoundIn G 0 P l f tmps a b w R
theorem InF.wide : InF Fence.wide := ⟨fun _ => trivial, rfl, fun h => callsIn_wide.2 h, fun h => h⟩
theorem InF.inRound (l : Nat) : InF (Fence.wide.inRound l) := ⟨fun _ => trivial, rfl, fun h => CallsIn.inRound l (callsIn_wide.2 h), fun h => h⟩
section
variable {P : Program} {F : Fx} {N : Nat} {G : Fence}
theorem out_uponIn (hG : InF G) {o : Oper} {a : Act} {next : Act → World → Prop} {Q : Exit → Act → World → Prop} {pk : Value → World → Prop} {K : Value → World → Prop} {r : Result Next} (h : OutP P pk K r)
    (hk : ∀ v w', K v w' → next (a.put o.dst v) w') (hp : ∀ v w', pk v w' → Q (.panic (onePanic v)) a w') : o.uponIn G 0 P a next Q r := by
  cases r with
  | halt x w =>
    cases x <;> try exact h.elim
    case panic v => exact hp _ _ h
  | ok n w =>
    cases n <;> try exact h.elim
    case value v => exact hk _ _ h
    case skip => exact hk _ _ h
    case enter f args =>
      rw [Oper.uponIn_enter]
      refine ⟨fun hd => by simp [hG.dep] at hd, hG.call (Calls.mono h fun e w' he => ?_)⟩
      rcases he with ⟨v, rfl, hv⟩ | ⟨v, rfl, hv⟩
      · exact hk _ _ hv
      · exact hp _ _ hv
theorem noDf_spec {o : Oper} (h : noDf o.op = true) : ∀ c, o.op ≠ .defer c := fun c e => by rw [e] at h; cases h
theorem ylArg_spec {E : Env} {o : Oper} {l : Nat} {c : Call} (h : ylArg E o = some (l, c)) : o.guard = none ∧ o.op = .call c ∧ ∃ f, c.callee = .value f ∧ E.rho f = .func (.yield l) #[] #[] := by
  unfold ylArg at h
  split at h
  · rename_i c' hg ho
    split at h
    · rename_i f hf
      split at h
      · rename_i l' a b hr
        split at h
        · rename_i ha hb
          simp only [Option.some.injEq, Prod.mk.injEq] at h
          obtain ⟨rfl, rfl⟩ := h
          refine ⟨hg, ho, f, hf, ?_⟩
          rw [hr]
          obtain ⟨a⟩ := a
          obtain ⟨b⟩ := b
          simp only at ha hb
          subst ha hb
          rfl
        · cases h
      · cases h
    · cases h
  · cases h
theorem run_execYield {E : Env} {o : Oper} {l : Nat} {c : Call} {f : Operand} (ho : o.op = .call c) (hc : c.callee = .value f) (hr : E.rho f = .func (.yield l) #[] #[]) (w : World) :
    (execOp E.rho o).run P w = ((Instr.yield l (c.args.map E.rho)).run P w) := by
  unfold execOp
  simp only [ho, resolve, hc, hr, Deferred.ofValue]
  simp [go_sem, invoke]
theorem opsY_in (hG : InF G) (hF : CallsOk P F.ok) {ops : Array Oper} {Q : Exit → Act → World → Prop} : ∀ (l : List Oper) (E : Env) (w : World) (K : Env → World → Prop) (a : Act),
    opsY P F ops l E w K → Fits N E a → dstOk N l → (∀ E' a' w', K E' w' → Fits N E' a' → frame l a a' → Q .normal a' w') →
    (∀ v a' w', F.pk v w' → Fits N [] a' → frame l a a' → Q (.panic (onePanic v)) a' w') → wpListIn G 0 P ops Q l a w
  | [], E, w, K, a, h, hf, _, hQ, _ => hQ E a w h hf (frame.refl _ _)
  | o :: r, E, w, K, a, h, hf, hd, hQ, hP => by
    have hd' : dstOk N r := fun p hp => hd p (List.mem_cons_of_mem _ hp)
    have ho := hd o List.mem_cons_self
    unfold wpListIn
    unfold opsY at h
    split at h
    · rename_i lc hy
      obtain ⟨l, c⟩ := lc
      obtain ⟨h1, h2, f, h3, h4⟩ := ylArg_spec hy
      split at h
      · rename_i hb
        rw [if_pos (by simp [Region.wanted, h1])]
        refine ⟨fun f _ => hG.fn f, ?_⟩
        rw [Oper.semAt_plain G _ o (fun c e => by rw [h2] at e; cases e), hasAll_exec hf hb, run_execYield h2 h3 h4]
        obtain ⟨fn, tmps, asg, body, e1, e2⟩ := h
        simp only at e1
        rw [e1, Oper.uponIn_round]
        refine ⟨fun hd => by simp [hG.dep] at hd, hG.round (e2.mono fun e w' he => ?_)⟩
        obtain ⟨b, rfl, hK⟩ := he
        exact opsY_in hG hF r _ w' K _ hK (hf.put ho) hd' (fun E'' a' w'' g1 g2 g3 => hQ _ _ _ g1 g2 (frame_cons g3)) fun v a' w'' g1 g2 g3 => hP v a' w'' g1 g2 (frame_cons g3)
      · exact h.elim
    · split at h
      · rename_i hnd
        unfold opsT at h
        rcases gdT_elim h hf with ⟨hw, E', hf', hy⟩ | ⟨hw, E', hf', hn⟩
        · rw [if_pos hw]
          refine ⟨fun f _ => hG.fn f, ?_⟩
          rw [Oper.semAt_plain G _ o (noDf_spec hnd)]
          split at hy
          · rename_i hb
            simp only [Bool.and_eq_true] at hb
            rw [hasAll_exec hf' hb.1]
            refine out_uponIn hG (opV_out hF hy) (fun v w' hk => ?_) fun v w' hp => hP v a w' hp hf.some (frame.refl _ _)
            exact opsY_in hG hF r _ w' K _ hk (hf'.put ho) hd' (fun E'' a' w'' h1 h2 h3 => hQ _ _ _ h1 h2 (frame_cons h3)) fun v a' w'' h1 h2 h3 => hP v a' w'' h1 h2 (frame_cons h3)
          · exact hy.elim
        · rw [if_neg (by rw [hw]; simp)]
          exact ⟨fun f _ => hG.fn f, opsY_in hG hF r _ w K _ hn (hf'.put ho) hd' (fun E'' a' w'' h1 h2 h3 => hQ _ _ _ h1 h2 (frame_cons h3)) fun v a' w'' h1 h2 h3 => hP v a' w'' h1 h2 (frame_cons h3)⟩
      · exact h.elim
theorem regY_in (hG : InF G) (hF : CallsOk P F.ok) {m : RMode} {id : Nat} {ops : Array Oper} {d : Bool} {E : Env} {w : World} {K : Env → World → Prop} {a : Act}
    (h : regY P F m ops d E w K) (hf : Fits N E a) (hd : dstOk N ops.toList) :
    (Code.region id ops d).wpIn G 0 P (HQ P F N ops a fun a' w' => ∃ E', K E' w' ∧ Fits N E' a' ∧ frame ops.toList a a') a w := by
  unfold regY at h
  split at h
  · exact wpIn_region_list (opsY_in hG hF _ _ _ _ _ h hf hd (fun E' a' w' h1 h2 h3 => .inl ⟨rfl, E', h1, h2, h3⟩) fun v a' w' h1 h2 h3 => .inr ⟨v, rfl, h1, h2, h3⟩)
  · exact h.elim
theorem codeY_in (hG : InF G) (hF : CallsOk P F.ok) : ∀ (c : Code) (pl : Plan) (E : Env) (w : World) (K : Exit → Env → World → Prop) (a : Act),
    codeY P F pl c E w K → Fits N E a → slotsOk N c = true → c.wpIn G 0 P (Post N F c K a) a w := by
  intro c
  induction c with
  | region id ops d =>
    intro pl E w K a h hf hs
    cases pl <;> try exact (show False from h).elim
    rename_i m
    have hfs : ∀ {a' : Act}, frame ops.toList a a' → Same (.region id ops d) a a' := fun h => ⟨fun t ht => h.1 t (wr_region ht), h.2⟩
    refine wpIn_mono (regY_in hG hF h hf (slotsOk_dst hs)) fun e a' w' hq => ?_
    rcases hq with ⟨he, E', h1, h2, h3⟩ | ⟨v, he, h1, h2, h3⟩
    · exact .inl ⟨E', by subst he; exact h1, h2, hfs h3⟩
    · exact .inr ⟨v, he, h1, h2, hfs h3⟩
  | skip =>
    intro pl E w K a h hf hs
    cases pl <;> try exact (show False from h).elim
    exact wpIn_skip (.inl ⟨E, h, hf, Same.refl _ _⟩)
  | label l =>
    intro pl E w K a h hf hs
    cases pl <;> try exact (show False from h).elim
    exact wpIn_label (.inl ⟨E, h, hf, Same.refl _ _⟩)
  | exit id =>
    intro pl E w K a h hf hs
    cases pl <;> try exact (show False from h).elim
    exact wpIn_exit (.inl ⟨E, h, hf, Same.refl _ _⟩)
  | ret =>
    intro pl E w K a h hf hs
    cases pl <;> try exact (show False from h).elim
    exact wpIn_ret (.inl ⟨E, h, hf, Same.refl _ _⟩)
  | seq c d ihc ihd =>
    intro pl E w K a h hf hs
    simp only [slotsOk, Bool.and_eq_true] at hs
    have wrs : ∀ t, wr t (.seq c d) = false → wr t c = false ∧ wr t d = false := fun t ht => by simpa [wr] using ht
    have sc : ∀ {a b : Act}, Same c a b → Same (.seq c d) a b := fun h => h.sub fun t ht => (wrs t ht).1
    have sd : ∀ {a b : Act}, Same d a b → Same (.seq c d) a b := fun h => h.sub fun t ht => (wrs t ht).2
    have post : ∀ {a' : Act} {e : Exit} {a'' : Act} {w'' : World}, Same c a a' → Post N F d K a' e a'' w'' → Post N F (.seq c d) K a e a'' w'' := fun h3 hq => by
      rcases hq with ⟨E'', g1, g2, g3⟩ | ⟨v, g0, g1, g2, g3⟩
      · exact .inl ⟨E'', g1, g2, (sc h3).trans (sd g3)⟩
      · exact .inr ⟨v, g0, g1, g2, (sc h3).trans (sd g3)⟩
    cases pl <;> try exact (show False from h).elim
    · rename_i p q
      refine wpIn_seq (wpIn_mono (ihc p E w _ a h hf hs.1) fun e a' w' hq => ?_)
      rcases hq with ⟨E', h1, h2, h3⟩ | ⟨v, rfl, h1, h2, h3⟩
      · cases e <;> try exact .inl ⟨E', h1, h2, sc h3⟩
        exact wpIn_mono (ihd q E' w' K a' h1 h2 hs.2) fun e a'' w'' hq => post h3 hq
      · exact .inr ⟨v, rfl, h1, h2, sc h3⟩
    · rename_i live keep p q
      replace h : match keepOk keep c with
        | true => Join (fun s w => codeY P F q d (stPut live s ++ Env.keep E keep) w K) fun J => codeY P F p c E w fun e E w => match e with
          | .normal => stGet live E fun s => J s w
          | e => K e E w
        | false => False := h
      split at h
      · rename_i hk
        obtain ⟨J, hb, hfr⟩ := h
        refine wpIn_seq (wpIn_mono (ihc p E w _ a hfr hf hs.1) fun e a' w' hq => ?_)
        rcases hq with ⟨E', h1, h2, h3⟩ | ⟨v, rfl, h1, h2, h3⟩
        · cases e <;> try exact .inl ⟨E', h1, h2, sc h3⟩
          obtain ⟨s, hJ, hst⟩ := stGet_elim (N := N) h1
          have hfit : Fits N (stPut live s ++ Env.keep E keep) a' := append_fits (hst a' h2) (keep_held hf keep fun t ht => h3.1 t (keepOk_wr hk t ht)) h2.size
          exact wpIn_mono (ihd q _ w' K a' (hb s w' hJ) hfit hs.2) fun e a'' w'' hq => post h3 hq
        · exact .inr ⟨v, rfl, h1, h2, sc h3⟩
      · exact h.elim
  | cond x c d ihc ihd =>
    intro pl E w K a h hf hs
    simp only [slotsOk, Bool.and_eq_true] at hs
    have wrs : ∀ t, wr t (.cond x c d) = false → wr t c = false ∧ wr t d = false := fun t ht => by simpa [wr] using ht
    have sc : ∀ {a b : Act}, Same c a b → Same (.cond x c d) a b := fun h => h.sub fun t ht => (wrs t ht).1
    have sd : ∀ {a b : Act}, Same d a b → Same (.cond x c d) a b := fun h => h.sub fun t ht => (wrs t ht).2
    cases pl <;> try exact (show False from h).elim
    rename_i p q
    replace h : match E.rho x with
      | .bool b => Br b (codeY P F p c E w K) (codeY P F q d E w K)
      | _ => False := h
    split at h
    · rename_i b hb
      rcases Br_elim h with ⟨rfl, h⟩ | ⟨rfl, h⟩
      · refine wpIn_cond_true (rho_bool hf hb) (wpIn_mono (ihc p E w K a h hf hs.1) fun e a' w' hq => ?_)
        rcases hq with ⟨E', h1, h2, h3⟩ | ⟨v, h0, h1, h2, h3⟩
        · exact .inl ⟨E', h1, h2, sc h3⟩
        · exact .inr ⟨v, h0, h1, h2, sc h3⟩
      · refine wpIn_cond_false (rho_bool hf hb) (wpIn_mono (ihd q E w K a h hf hs.2) fun e a' w' hq => ?_)
        rcases hq with ⟨E', h1, h2, h3⟩ | ⟨v, h0, h1, h2, h3⟩
        · exact .inl ⟨E', h1, h2, sd h3⟩
        · exact .inr ⟨v, h0, h1, h2, sd h3⟩
    · exact h.elim
  | block id c ih =>
    intro pl E w K a h hf hs
    have sc : ∀ {a b : Act}, Same c a b → Same (.block id c) a b := fun h => h.sub fun t ht => by simpa [wr] using ht
    cases pl <;> try exact (show False from h).elim
    rename_i p
    refine wpIn_block (wpIn_mono (ih p E w _ a h hf hs) fun e a' w' hq => ?_)
    rcases hq with ⟨E', h1, h2, h3⟩ | ⟨v, rfl, h1, h2, h3⟩
    · cases e with
      | exit i =>
        replace h1 : match Nat.beq i id with
          | true => K .normal E' w'
          | false => K (.exit i) E' w' := h1
        show if i = id then _ else _
        cases hb : Nat.beq i id with
        | true => rw [hb] at h1; rw [if_pos (beq_eq hb)]; exact .inl ⟨E', h1, h2, sc h3⟩
        | false => rw [hb] at h1; rw [if_neg (fun e => by subst e; simp at hb)]; exact .inl ⟨E', h1, h2, sc h3⟩
      | _ => exact .inl ⟨E', h1, h2, sc h3⟩
    · exact .inr ⟨v, rfl, h1, h2, sc h3⟩
  | loop c ih =>
    intro pl E w K a h hf hs
    have sc : ∀ {a b : Act}, Same c a b → Same (.loop c) a b := fun h => h.sub fun t ht => by simpa [wr] using ht
    cases pl <;> try exact (show False from h).elim
    rename_i live keep p
    replace h : match keepOk keep c with
      | true => stGet live E fun s0 => Lp (fun R s w => codeY P F p c (stPut live s ++ Env.keep E keep) w fun e E w => match e with
        | .normal => stGet live E fun s => R s w
        | e => K e E w) s0 w
      | false => False := h
    split at h
    · rename_i hk
      obtain ⟨s0, ⟨I, n0, h0, hround⟩, hst0⟩ := stGet_elim (N := N) h
      refine wpIn_loop_ghost (rm := 0) (fun n a' w' => ∃ s, I n s w' ∧ Fits N (stPut live s ++ Env.keep E keep) a' ∧ Same c a a') n0
        ⟨s0, h0, append_fits (hst0 a hf) (keep_held hf keep fun _ _ => rfl) hf.size, Same.refl _ _⟩ ?_
      rintro n a' w' ⟨s, hI, hfit, hfr⟩
      refine wpIn_mono (ih p _ w' _ a' (hround n s w' hI) hfit hs) fun e a'' w'' hq => ?_
      rcases hq with ⟨E'', g1, g2, g3⟩ | ⟨v, rfl, g1, g2, g3⟩
      · have hfr' := hfr.trans g3
        cases e <;> try exact .inl ⟨E'', g1, g2, sc hfr'⟩
        obtain ⟨s', ⟨n', hlt, hI'⟩, hst⟩ := stGet_elim (N := N) g1
        exact ⟨n', hlt, s', hI', append_fits (hst a'' g2) (keep_held hf keep fun t ht => hfr'.1 t (keepOk_wr hk t ht)) g2.size, hfr'⟩
      · exact .inr ⟨v, rfl, g1, g2, sc (hfr.trans g3)⟩
    · exact h.elim
  | _ =>
    intro pl E w K a h hf hs
    cases pl <;> exact (show False from h).elim


/-- What a call of a function must satisfy that calls yield. -/
def fnY (P : Program) (F : Fx) (pl : Plan) (fn : Func) (args : List Value) (w : World) (tys : List Ty) (R : Sg tys → World → Prop) : Prop :=
  match fn.body with
  | none => False
  | some c => codeY P F pl c (env0 0 args) w fun e E w => match e with
    | .normal => resT P fn.results.toList E w fun vs => match Sg.get? tys vs with
      | some s => R s w
      | none => False
    | .ret => resT P fn.results.toList E w fun vs => match Sg.get? tys vs with
      | some s => R s w
      | none => False
    | _ => False
theorem fnY_calls {ok may : Nat → Bool} (hF : CallsOk P ok) {f : FuncId} {fn : Func} {pl : Plan} {args : List Value} {w : World} {tys : List Ty} {R : Sg tys → World → Prop}
    (hf : P.funcs[f]? = some fn) (hN : (match fn.body with
      | some c => slotsOk fn.ntmps c
      | none => false) = true) (ha : Nat.ble args.length fn.ntmps = true)
    (h : fnY P ⟨ok, may, fun _ _ => False⟩ pl fn args w tys R) : CallsIn Fence.wide 0 P f args.toArray w fun e w' => ∃ s : Sg tys, e = .returned (callV.retV (Sg.vals tys s)) ∧ R s w' := by
  unfold fnY at h
  split at h
  · exact h.elim
  · rename_i c hc
    rw [hc] at hN
    refine callsIn_of_wp hf hc trivial ?_ rfl
    refine wpIn_mono (codeY_in (F := ⟨ok, may, fun _ _ => False⟩) InF.wide hF c pl _ w _ _ h (fits0 (Nat.le_of_ble_eq_true ha)) hN) fun e a' w' hq => ?_
    rcases hq with ⟨E', h1, h2, h3⟩ | ⟨v, rfl, h1, h2, h3⟩
    · have fin : finT P fn tys R E' w' → a'.defers = [] ∧ ∃ v, (results fn a'.tmps).run P w' = .ok v w' ∧ ∃ s : Sg tys, Ending.returned v = .returned (callV.retV (Sg.vals tys s)) ∧ R s w' := fun h => by
        obtain ⟨v, g1, g2⟩ := fin_run h2 h
        exact ⟨h3.2, v, g1, g2⟩
      cases e with
      | normal => exact fin h1
      | ret => exact fin h1
      | _ => exact h1.elim
    · exact h1.elim
end
end Sh
end Go.Proofs.YtjbeembbnkmpeaaDoor

/- The formulas of 2 functions of the program, written by program (gen.py); the kernel checks each. No condition. -/
namespace Go.Proofs.YtjbeembbnkmpeaaDoor
open Sh
set_option linter.unusedVariables false
set_option maxRecDepth 100000


def C89 (l1 : Slc) (w : World) (R : Value → World → Prop) : Prop :=
  Calls Tryd.prog 89 #[Slc.v l1] w fun e w' => ∃ r0 : Value, e = .returned r0 ∧ R r0 w'
theorem C89.mono {l1 : Slc} {w : World} {R R' : Value → World → Prop} (h : C89 l1 w R) (hr : ∀ r0 w', R r0 w' → R' r0 w') : C89 l1 w R' :=
  Calls.mono h fun _ _ ⟨r0, he, hR⟩ => ⟨r0, he, hr _ _ hR⟩

def S148_YL1 (l2 : Nat) (s5 : Int) (I7 : Int → World → Prop) (s45 : Slc) (R : World → Prop) (I49 : Int → World → Prop) (s47 : Int) (vw48 : World) : Prop :=
  Br (decide (s47 < ((s45.len : Nat) : Int))) (0 ≤ s47 ∧ s47 < (s45.len : Nat) ∧ Nn s45.p fun a50 =>
    Ld vw48 (a50.add ((s47).toNat * 2)) (Value.int .i64) fun (x51 : Int) =>
    Ld vw48 ((a50.add ((s47).toNat * 2)).add 1) (Value.int .i64) fun (x52 : Int) =>
    Nw vw48 (.cells #[.int .i64 0, .int .i64 0] 43) fun vw53 =>
    St vw53 (⟨vw48.heap.size, 0, none⟩ : Addr) (.int .i64 x51) fun vw54 =>
    St vw54 ((⟨vw48.heap.size, 0, none⟩ : Addr).add 1) (.int .i64 x52) fun vw55 =>
    Ld vw55 (⟨vw48.heap.size, 0, none⟩ : Addr) (Value.int .i64) fun (x56 : Int) =>
    Ld vw55 ((⟨vw48.heap.size, 0, none⟩ : Addr).add 1) (Value.int .i64) fun (x57 : Int) =>
    Yl Tryd.prog l2 #[.agg #[.int .i64 x56, .int .i64 x57]] vw55 fun (b58 : Bool) vw59 =>
      Br (!b58) (R vw59) (I49 (IntKind.i64.wrap (s47 + 1)) vw59)) (I7 (IntKind.i64.wrap (s5 + 1)) vw48)
def S148_YJ1 (l2 : Nat) (s5 : Int) (I7 : Int → World → Prop) (R : World → Prop) (s45 : Slc) (vw46 : World) : Prop :=
  Lp (σ := Int) (S148_YL1 l2 s5 I7 s45 R) 0 vw46
def S148_YL2 (l2 : Nat) (x4 : Slc) (R : World → Prop) (I7 : Int → World → Prop) (s5 : Int) (vw6 : World) : Prop :=
  Br (decide (s5 < ((x4.len : Nat) : Int))) (0 ≤ s5 ∧ s5 < (x4.len : Nat) ∧ Nn x4.p fun a8 =>
    Ld vw6 (a8.add ((s5).toNat * 7)) (Value.int .i64) fun (x9 : Int) =>
    Ld vw6 ((a8.add ((s5).toNat * 7)).add 1) (Value.int .i64) fun (x10 : Int) =>
    Ld vw6 ((a8.add ((s5).toNat * 7)).add 2) (Value.int .i64) fun (x11 : Int) =>
    Ld vw6 ((a8.add ((s5).toNat * 7)).add 3) (Value.int .i64) fun (x12 : Int) =>
    Ld vw6 ((a8.add ((s5).toNat * 7)).add 4) (Value.int .i64) fun (x13 : Int) =>
    Ld vw6 ((a8.add ((s5).toNat * 7)).add 5) (Value.int .i64) fun (x14 : Int) =>
    Ld vw6 ((a8.add ((s5).toNat * 7)).add 6) (Value.int .i64) fun (x15 : Int) =>
    Nw vw6 (.cells #[.int .i64 0, .int .i64 0, .int .i64 0, .int .i64 0, .int .i64 0, .int .i64 0, .int .i64 0] 67) fun vw16 =>
    St vw16 (⟨vw6.heap.size, 0, none⟩ : Addr) (.int .i64 x9) fun vw17 =>
    St vw17 ((⟨vw6.heap.size, 0, none⟩ : Addr).add 1) (.int .i64 x10) fun vw18 =>
    St vw18 ((⟨vw6.heap.size, 0, none⟩ : Addr).add 2) (.int .i64 x11) fun vw19 =>
    St vw19 ((⟨vw6.heap.size, 0, none⟩ : Addr).add 3) (.int .i64 x12) fun vw20 =>
    St vw20 ((⟨vw6.heap.size, 0, none⟩ : Addr).add 4) (.int .i64 x13) fun vw21 =>
    St vw21 ((⟨vw6.heap.size, 0, none⟩ : Addr).add 5) (.int .i64 x14) fun vw22 =>
    St vw22 ((⟨vw6.heap.size, 0, none⟩ : Addr).add 6) (.int .i64 x15) fun vw23 =>
    Join (S148_YJ1 l2 s5 I7 R) fun (vJ60 : Slc → World → Prop) =>
      Ld vw23 (⟨vw6.heap.size, 0, none⟩ : Addr) (Value.int .i64) fun (x61 : Int) =>
      Br (x61 == 1) (Br (x61 == 1) (Ld vw23 ((⟨vw6.heap.size, 0, none⟩ : Addr).add 5) (Value.int .i64) fun (x62 : Int) =>
          Ld vw23 (((⟨vw6.heap.size, 0, none⟩ : Addr).add 5).add 1) (Value.int .i64) fun (x63 : Int) =>
          Nw vw23 (.cells #[.int .i64 x62, .int .i64 x63] 43) fun vw64 =>
          vJ60 (⟨some ⟨vw23.heap.size, 0, none⟩, 1, 1⟩ : Slc) vw64) (Br (x61 == 3) (Ld vw23 ((⟨vw6.heap.size, 0, none⟩ : Addr).add 1) (Value.int .i64) fun (x65 : Int) =>
            Ld vw23 (((⟨vw6.heap.size, 0, none⟩ : Addr).add 1).add 1) (Value.int .i64) fun (x66 : Int) =>
            Ld vw23 ((⟨vw6.heap.size, 0, none⟩ : Addr).add 3) (Value.int .i64) fun (x67 : Int) =>
            Ld vw23 (((⟨vw6.heap.size, 0, none⟩ : Addr).add 3).add 1) (Value.int .i64) fun (x68 : Int) =>
            Ld vw23 ((⟨vw6.heap.size, 0, none⟩ : Addr).add 5) (Value.int .i64) fun (x69 : Int) =>
            Ld vw23 (((⟨vw6.heap.size, 0, none⟩ : Addr).add 5).add 1) (Value.int .i64) fun (x70 : Int) =>
            Nw vw23 (.cells #[.int .i64 x65, .int .i64 x66, .int .i64 x67, .int .i64 x68, .int .i64 x69, .int .i64 x70] 43) fun vw71 =>
            vJ60 (⟨some ⟨vw23.heap.size, 0, none⟩, 3, 3⟩ : Slc) vw71) (vJ60 (⟨none, 0, 0⟩ : Slc) vw23))) (Br (x61 == 2) (Ld vw23 ((⟨vw6.heap.size, 0, none⟩ : Addr).add 5) (Value.int .i64) fun (x72 : Int) =>
          Ld vw23 (((⟨vw6.heap.size, 0, none⟩ : Addr).add 5).add 1) (Value.int .i64) fun (x73 : Int) =>
          Nw vw23 (.cells #[.int .i64 x72, .int .i64 x73] 43) fun vw74 =>
          vJ60 (⟨some ⟨vw23.heap.size, 0, none⟩, 1, 1⟩ : Slc) vw74) (Br (x61 == 3) (Ld vw23 ((⟨vw6.heap.size, 0, none⟩ : Addr).add 1) (Value.int .i64) fun (x75 : Int) =>
            Ld vw23 (((⟨vw6.heap.size, 0, none⟩ : Addr).add 1).add 1) (Value.int .i64) fun (x76 : Int) =>
            Ld vw23 ((⟨vw6.heap.size, 0, none⟩ : Addr).add 3) (Value.int .i64) fun (x77 : Int) =>
            Ld vw23 (((⟨vw6.heap.size, 0, none⟩ : Addr).add 3).add 1) (Value.int .i64) fun (x78 : Int) =>
            Ld vw23 ((⟨vw6.heap.size, 0, none⟩ : Addr).add 5) (Value.int .i64) fun (x79 : Int) =>
            Ld vw23 (((⟨vw6.heap.size, 0, none⟩ : Addr).add 5).add 1) (Value.int .i64) fun (x80 : Int) =>
            Nw vw23 (.cells #[.int .i64 x75, .int .i64 x76, .int .i64 x77, .int .i64 x78, .int .i64 x79, .int .i64 x80] 43) fun vw81 =>
            vJ60 (⟨some ⟨vw23.heap.size, 0, none⟩, 3, 3⟩ : Slc) vw81) (vJ60 (⟨none, 0, 0⟩ : Slc) vw23)))) (R vw6)
/-- foliant/path.points$1 -/
def S148_Y (l2 : Nat) (c3 : Addr) (w : World) (R : World → Prop) : Prop :=
  Ld w c3 Slc.v fun (x4 : Slc) =>
  Lp (σ := Int) (S148_YL2 l2 x4 R) 0 w
def pl148_Y : Plan := (.seq (.reg .seq) (.block (.loop [(10, (.one (.int .i64)))] [0, 8, 9] (.seq (.reg .seq) (.seq (.cond .leaf .leaf) (.seq (.block (.seq (.reg .seq) (.seq (.reg .seq) (.join [(5, (.one .slc))] [0, 8, 9, 10] (.seq (.reg .seq) (.block (.seq (.seq (.reg .seq) (.cond .leaf (.reg .seq))) (.cond (.reg .seq) (.seq (.reg .seq) (.cond (.reg .seq) .leaf)))))) (.seq (.reg .seq) (.block (.loop [(33, (.one (.int .i64)))] [0, 8, 9, 10, 31, 32] (.seq (.reg .seq) (.seq (.cond .leaf .leaf) (.seq (.block (.seq (.reg .seq) (.seq (.reg .seq) (.cond .leaf .leaf)))) (.reg .seq))))))))))) (.reg .seq)))))))
set_option maxRecDepth 100000 in
theorem T148_Y (l2 : Nat) (c3 : Addr) (w : World) (R : World → Prop) (h : S148_Y l2 c3 w R) : CallsIn Fence.wide 0 Tryd.prog 148 #[.func (.yield l2) #[] #[], .pointer (some c3)] w fun e w' => e = .returned (.tuple #[]) ∧ R w' := by
  have e : fnY Tryd.prog ⟨FF, MAY, (fun _ _ => False)⟩ pl148_Y Tryd.f148 [.func (.yield l2) #[] #[], .pointer (some c3)] w [] (fun _ w => R w) = S148_Y l2 c3 w R := by kernel_rfl
  exact (fnY_calls okF Tryd.func148 (by kernel_rfl) (by kernel_rfl) (e.mpr h)).mono fun _ _ ⟨_, he, hR⟩ => ⟨he, hR⟩

/-- foliant/path.points -/
def S89 (l1 : Slc) (w : World) (R : Value → World → Prop) : Prop :=
  Nw w (.cells #[Slc.v l1] 64) fun vw2 =>
  R (.func (.func 148) #[] #[.pointer (some (⟨w.heap.size, 0, none⟩ : Addr))]) vw2
def pl89 : Plan := (.seq (.reg .seq) (.seq (.reg .seq) .leaf))
set_option maxRecDepth 100000 in
theorem T89 (l1 : Slc) (w : World) (R : Value → World → Prop) (h : S89 l1 w R) : C89 l1 w R := by
  have e : fnT Tryd.prog ⟨FF, MAY, (fun _ _ => False)⟩ pl89 Tryd.f89 [Slc.v l1] w [(.one .raw)] (fun s w => R s w) = S89 l1 w R := by kernel_rfl
  exact (fn_calls okF okM Tryd.func89 (by kernel_rfl) (by kernel_rfl) (e.mpr h)).mono fun _ _ ⟨s, he, hR⟩ => ⟨s, he, hR⟩

end Go.Proofs.YtjbeembbnkmpeaaDoor

/- Small laws on memory, on numbers and on the formulas of 'Sh'. No condition. -/
namespace Go.Proofs.YtjbeembbnkmpeaaDoor
namespace Sh
set_option linter.unusedVariables false

@[simp] theorem Br_true (A B : Prop) : Br true A B = A := rfl
@[simp] theorem Br_false (A B : Prop) : Br false A B = B := rfl
theorem Br_of {b : Bool} {A B : Prop} (h1 : b = true → A) (h2 : b = false → B) : Br b A B := by cases b; exact h2 rfl; exact h1 rfl
theorem Join.intro {σ : Type} {body : σ → World → Prop} {front : (σ → World → Prop) → Prop} (h : front body) : Join body front := ⟨body, fun _ _ h => h, h⟩
/-- A loop whose relation has a measure. -/
theorem Lp.mk {σ : Type} {B : (σ → World → Prop) → σ → World → Prop} {s0 : σ} {w0 : World} (I : σ → World → Prop) (μ : σ → World → Nat) (h0 : I s0 w0)
    (h : ∀ s w, I s w → B (fun s' w' => I s' w' ∧ μ s' w' < μ s w) s w) (hm : ∀ (X Y : σ → World → Prop) s w, (∀ s w, X s w → Y s w) → B X s w → B Y s w) : Lp B s0 w0 :=
  ⟨fun n s w => I s w ∧ μ s w = n, _, ⟨h0, rfl⟩, fun n s w ⟨hI, hn⟩ => hm _ _ s w (fun s' w' ⟨h1, h2⟩ => ⟨μ s' w', hn ▸ h2, h1, rfl⟩) (h s w hI)⟩

/-! ### Addresses and cells -/

@[simp] theorem add_lit (b o n : Nat) : (⟨b, o, none⟩ : Addr).add n = ⟨b, o + n, none⟩ := by
  unfold Addr.add
  split
  · rename_i h; subst h; rfl
  · rfl
/-- Block b of w is this row of cells. -/
def Blk (w : World) (b : Nat) (cs : Array Value) (t : TypeId) : Prop := w.heap[b]? = some (.cells cs t (0, 0))
theorem Blk.cell {w : World} {b : Nat} {cs : Array Value} {t : TypeId} (h : Blk w b cs t) (o : Nat) : w.cell? ⟨b, o, none⟩ = cs[o]? := by
  unfold Blk at h
  simp [World.cell?, h]
theorem Blk.frozen {w : World} {b : Nat} {cs : Array Value} {t : TypeId} (h : Blk w b cs t) (o : Nat) : w.frozen? ⟨b, o, none⟩ = false := by
  unfold Blk at h
  simp [World.frozen?, h]
theorem Blk.can {w : World} {b : Nat} {cs : Array Value} {t : TypeId} (h : Blk w b cs t) {o : Nat} (ho : o < cs.size) : CanSt w ⟨b, o, none⟩ :=
  ⟨⟨cs[o], by rw [h.cell, Array.getElem?_eq_getElem ho]⟩, h.frozen o⟩
theorem Blk.lt {w : World} {b : Nat} {cs : Array Value} {t : TypeId} (h : Blk w b cs t) : b < w.heap.size := (Array.getElem?_eq_some_iff.1 h).1
theorem Blk.set {w : World} {b : Nat} {cs : Array Value} {t : TypeId} (h : Blk w b cs t) (o : Nat) (v : Value) : Blk (w.setCell ⟨b, o, none⟩ v) b (cs.setIfInBounds o v) t := by
  unfold Blk at h ⊢
  simp [World.setCell, Array.getElem?_modify, h]
theorem Blk.set' {w : World} {b c : Nat} {cs : Array Value} {t : TypeId} (h : Blk w b cs t) {o : Nat} {v : Value} (hne : b ≠ c) : Blk (w.setCell ⟨c, o, none⟩ v) b cs t := by
  unfold Blk at h ⊢
  simp only [World.setCell, Array.getElem?_modify]
  rw [if_neg (fun e => hne e.symm)]
  exact h
theorem Blk.drew {w : World} {b : Nat} {cs : Array Value} {t : TypeId} (h : Blk w b cs t) : Blk w.drew b cs t := h
theorem Blk.drewN {w : World} {b : Nat} {cs : Array Value} {t : TypeId} (h : Blk w b cs t) {n : Nat} : Blk (w.drewN n) b cs t := by unfold Blk at h ⊢; exact h
theorem Blk.alloc {w : World} {b : Nat} {cs : Array Value} {t : TypeId} (h : Blk w b cs t) (o : Obj) : Blk (w.alloc o) b cs t := by
  have := h.lt
  unfold Blk at h ⊢
  rw [Go.RowKit.Below.heap_alloc w o b this]; exact h
theorem Blk.new (w : World) (cs : Array Value) (t : TypeId) : Blk (w.alloc (.cells cs t)) w.heap.size cs t := by
  unfold Blk
  show (w.heap.push _)[w.heap.size]? = _
  simp
@[simp] theorem size_alloc' (w : World) (o : Obj) : (w.alloc o).heap.size = w.heap.size + 1 := by show (w.heap.push o).size = _; rw [Array.size_push]
@[simp] theorem size_set' (w : World) (a : Addr) (v : Value) : (w.setCell a v).heap.size = w.heap.size := by simp [World.setCell]
@[simp] theorem size_drew' (w : World) : w.drew.heap.size = w.heap.size := rfl
@[simp] theorem size_drewN' (w : World) (n : Nat) : (w.drewN n).heap.size = w.heap.size := rfl

/-! ### What may have changed -/

/-- w' is w with new blocks, and with the blocks of F changed. -/
structure Ext (F : Nat → Prop) (w w' : World) : Prop where
  os : w'.os = w.os
  tape : w'.tape = w.tape
  output : w'.output = w.output
  size : w.heap.size ≤ w'.heap.size
  block : ∀ k, k < w.heap.size → ¬ F k → w'.heap[k]? = w.heap[k]?
theorem Ext.refl (F : Nat → Prop) (w : World) : Ext F w w := ⟨rfl, rfl, rfl, Nat.le_refl _, fun _ _ _ => rfl⟩
theorem Ext.trans {F G H : Nat → Prop} {a b c : World} (h : Ext F a b) (k : Ext G b c) (hF : ∀ i, F i → H i) (hG : ∀ i, i < a.heap.size → G i → H i) : Ext H a c :=
  ⟨k.os.trans h.os, k.tape.trans h.tape, k.output.trans h.output, Nat.le_trans h.size k.size, fun i hi hn =>
    (k.block i (Nat.lt_of_lt_of_le hi h.size) fun g => hn (hG i hi g)).trans (h.block i hi fun f => hn (hF i f))⟩
theorem Ext.tr {F : Nat → Prop} {a b c : World} (h : Ext F a b) (k : Ext F b c) : Ext F a c := h.trans k (fun _ h => h) (fun _ _ h => h)
theorem Ext.mono {F G : Nat → Prop} {a b : World} (h : Ext F a b) (hF : ∀ i, i < a.heap.size → F i → G i) : Ext G a b :=
  ⟨h.os, h.tape, h.output, h.size, fun i hi hn => h.block i hi fun f => hn (hF i hi f)⟩
theorem Ext.drew {F : Nat → Prop} {a w : World} (h : Ext F a w) : Ext F a w.drew := ⟨h.os, h.tape, h.output, h.size, h.block⟩
theorem Ext.drewN {F : Nat → Prop} {a w : World} (h : Ext F a w) (n : Nat) : Ext F a (w.drewN n) := ⟨h.os, h.tape, h.output, h.size, h.block⟩
theorem Ext.alloc {F : Nat → Prop} {a w : World} (h : Ext F a w) (o : Obj) : Ext F a (w.alloc o) :=
  ⟨h.os, h.tape, h.output, by have := h.size; simp; omega, fun i hi hn => by
    rw [Go.RowKit.Below.heap_alloc w o i (by have := h.size; omega)]; exact h.block i hi hn⟩
theorem Ext.set {F : Nat → Prop} {a w : World} (h : Ext F a w) {b o : Nat} (hb : F b ∨ a.heap.size ≤ b) (v : Value) : Ext F a (w.setCell ⟨b, o, none⟩ v) :=
  ⟨h.os, h.tape, h.output, by simpa using h.size, fun i hi hn => by
    rw [Go.RowKit.Below.heap_setCell _ _ _ _ (fun e => by
      simp only at e
      subst e
      rcases hb with hb | hb
      · exact hn hb
      · omega)]
    exact h.block i hi hn⟩
theorem Ext.blk {F : Nat → Prop} {a w : World} (h : Ext F a w) {b : Nat} {cs : Array Value} {t : TypeId} (hb : Blk a b cs t) (hn : ¬ F b) : Blk w b cs t := by
  unfold Blk at hb ⊢
  rw [h.block b (Array.getElem?_eq_some_iff.1 hb).1 hn]; exact hb
theorem Ext.below {w w' : World} (h : Ext (fun _ => False) w w') : Go.RowKit.Below w.heap.size w w' :=
  ⟨h.os, h.tape, h.output, h.size, fun k hk => h.block k hk id⟩
theorem Ext.grown {F : Nat → Prop} {a w w' : World} {row : Option Nat} (h : Ext F a w) (g : w.grownBy w' row) (hr : ∀ k, row = some k → F k ∨ a.heap.size ≤ k) : Ext F a w' :=
  ⟨g.os.trans h.os, g.tape.trans h.tape, g.output.trans h.output, Nat.le_trans h.size g.size, fun i hi hn => by
    rw [g.block i (by have := h.size; omega) (fun e => by
      rcases hr i e.symm with h1 | h1
      · exact hn h1
      · omega)]
    exact h.block i hi hn⟩
theorem Ext.cell {F : Nat → Prop} {a w : World} (h : Ext F a w) {p : Addr} (hp : p.block < a.heap.size) (hn : ¬ F p.block) : w.cell? p = a.cell? p := World.cell?_of_block (w := a) (h.block p.block hp hn)

theorem cell_lt' {w : World} {a : Addr} {v : Value} (h : w.cell? a = some v) : a.block < w.heap.size := by
  unfold World.cell? at h
  rcases Nat.lt_or_ge a.block w.heap.size with h' | h'
  · exact h'
  · rw [Array.getElem?_eq_none h'] at h
    cases h
theorem Ext.cell_same {a w : World} (h : Ext (fun _ => False) a w) {p : Addr} {v : Value} (hc : a.cell? p = some v) : w.cell? p = some v := by
  rw [h.cell (cell_lt' hc) id]; exact hc

/-! ### The steps of a formula over known blocks -/

/-- Blocks that are known whole, no two of them one; 'w0': the world at the start; 'F': the old blocks that may be changed. -/
structure Hx (w0 : World) (F : Nat → Prop) (w : World) (L : List (Nat × Array Value × TypeId)) : Prop where
  blk : ∀ p ∈ L, Blk w p.1 p.2.1 p.2.2
  nodup : (L.map (·.1)).Nodup
  ext : Ext F w0 w
section
variable {w0 w : World} {F : Nat → Prop} {L : List (Nat × Array Value × TypeId)} {b o : Nat} {cs : Array Value} {t : TypeId}
theorem Hx.get (h : Hx w0 F w L) (i : Nat) (hi : L[i]? = some (b, cs, t)) : Blk w b cs t := h.blk (b, cs, t) (List.mem_of_getElem? hi)
theorem Nn.of {a : Addr} {K : Addr → Prop} (h : K a) : Nn (some a) K := ⟨a, rfl, h⟩
theorem Ld.mk {α : Type} {V : α → Value} {K : α → Prop} {x : α} {a : Addr} (h : w.cell? a = some (V x)) (k : K x) : Ld w a V K := ⟨x, h, k⟩
theorem Nw.of {o' : Obj} {K : World → Prop} (h : K (w.alloc o')) : Nw w o' K := h
theorem Lt.of {α : Type} {e : α} {K : α → Prop} (h : K e) : Lt e K := h
theorem Ld.of {α : Type} {V : α → Value} {K : α → Prop} {x : α} (h : Blk w b cs t) (hx : cs[o]? = some (V x)) (hk : K x) : Ld w ⟨b, o, none⟩ V K := ⟨x, by rw [h.cell]; exact hx, hk⟩
theorem Hx.ld {α : Type} {V : α → Value} {K : α → Prop} {x : α} (h : Hx w0 F w L) (i : Nat) (hi : L[i]? = some (b, cs, t)) (hx : cs[o]? = some (V x)) (hk : K x) : Ld w ⟨b, o, none⟩ V K :=
  Ld.of (h.get i hi) hx hk
theorem LdS.of {α : Type} {S : World → Prop} {V : α → Value} {K : α → Prop} {x : α} (h : ∀ w, S w → Blk w b cs t) (hx : cs[o]? = some (V x)) (hk : K x) : LdS S ⟨b, o, none⟩ V K :=
  ⟨x, fun w hw => by rw [(h w hw).cell]; exact hx, hk⟩
theorem nodup_get {l : List Nat} (h : l.Nodup) {i j x : Nat} (hi : l[i]? = some x) (hj : l[j]? = some x) : i = j := by
  obtain ⟨h1, e1⟩ := List.getElem?_eq_some_iff.1 hi
  obtain ⟨h2, e2⟩ := List.getElem?_eq_some_iff.1 hj
  exact (List.getElem_inj h).1 (e1.trans e2.symm)
theorem map_set_fst {v : Array Value × TypeId} {i : Nat} {c : Array Value × TypeId} (hi : L[i]? = some (b, c)) : (L.set i (b, v)).map (·.1) = L.map (·.1) := by
  rw [List.map_set]
  refine List.ext_getElem? fun j => ?_
  rw [List.getElem?_set]
  split
  · rename_i e
    subst e
    have : (L.map (·.1))[i]? = some b := by simp [hi]
    rw [this]
    simp
    exact (List.getElem?_eq_some_iff.1 hi).1
  · rfl
/-- One known block has turned. -/
theorem Hx.upd (h : Hx w0 F w L) (i : Nat) (hi : L[i]? = some (b, cs, t)) {w2 : World} {cs' : Array Value} (hb : Blk w2 b cs' t) (he : Ext (· = b) w w2) (hF : F b ∨ w0.heap.size ≤ b) : Hx w0 F w2 (L.set i (b, cs', t)) := by
  refine ⟨fun p hp => ?_, by rw [map_set_fst hi]; exact h.nodup, h.ext.trans he (fun _ h => h) fun k hk e => ?_⟩
  · obtain ⟨j, hj⟩ := List.getElem?_of_mem hp
    rw [List.getElem?_set] at hj
    split at hj
    · split at hj
      · cases hj; exact hb
      · cases hj
    · rename_i hne
      refine he.blk (h.blk p (List.mem_of_getElem? hj)) fun e => hne ?_
      exact nodup_get h.nodup (x := b) (by simp [hi]) (by simp [hj, e])
  · subst e
    rcases hF with hF | hF
    · exact hF
    · omega
theorem Hx.st {v : Value} {K : World → Prop} (h : Hx w0 F w L) (i : Nat) (hi : L[i]? = some (b, cs, t)) (ho : o < cs.size) (hF : F b ∨ w0.heap.size ≤ b)
    (k : ∀ w2, Hx w0 F w2 (L.set i (b, cs.setIfInBounds o v, t)) → K w2) : St w ⟨b, o, none⟩ v K :=
  ⟨(h.get i hi).can ho, k _ (h.upd i hi ((h.get i hi).set o v) ((Ext.refl (· = b) w).set (.inl rfl) v) hF)⟩
theorem Hx.keep (h : Hx w0 F w L) {w2 : World} (he : Ext (fun _ => False) w w2) : Hx w0 F w2 L :=
  ⟨fun p hp => he.blk (h.blk p hp) id, h.nodup, h.ext.trans he (fun _ h => h) (fun _ _ h => h.elim)⟩
theorem Hx.drew (h : Hx w0 F w L) : Hx w0 F w.drew L := h.keep (Ext.refl _ w).drew
theorem Hx.drewN (h : Hx w0 F w L) {n : Nat} : Hx w0 F (w.drewN n) L := h.keep ((Ext.refl _ w).drewN n)
/-- A block that is known besides. -/
theorem Hx.push (h : Hx w0 F w L) (hb : Blk w b cs t) (hne : b ∉ L.map (·.1)) : Hx w0 F w (L ++ [(b, cs, t)]) :=
  ⟨fun p hp => (List.mem_append.1 hp).elim (h.blk p) fun e => by rw [List.mem_singleton.1 e]; exact hb,
    by rw [List.map_append]; exact List.nodup_append.2 ⟨h.nodup, by simp, fun a ha c hc e => hne (by simp at hc; rw [← hc, ← e]; exact ha)⟩, h.ext⟩
theorem Hx.fresh (h : Hx w0 F w L) : w.heap.size ∉ L.map (·.1) := fun hm => by
  obtain ⟨p, hp, e⟩ := List.mem_map.1 hm
  have := (h.blk p hp).lt
  omega
theorem Hx.nw {K : World → Prop} (h : Hx w0 F w L) (k : ∀ w2, Hx w0 F w2 (L ++ [(w.heap.size, cs, t)]) → K w2) : Nw w (.cells cs t) K :=
  k _ ((h.keep ((Ext.refl _ w).alloc _)).push (Blk.new w cs t) h.fresh)
theorem Hx.nw' {K : World → Prop} (h : Hx w0 F w L) (k : ∀ w2, Hx w0 F w2 (L ++ [(w.heap.size, cs, t)]) → Ext (fun _ => False) w w2 → K w2) : Nw w (.cells cs t) K :=
  k _ ((h.keep ((Ext.refl _ w).alloc _)).push (Blk.new w cs t) h.fresh) ((Ext.refl _ w).alloc _)
theorem Hx.st' {v : Value} {K : World → Prop} (h : Hx w0 F w L) (i : Nat) (hi : L[i]? = some (b, cs, t)) (ho : o < cs.size) (hF : F b ∨ w0.heap.size ≤ b)
    (k : ∀ w2, Hx w0 F w2 (L.set i (b, cs.setIfInBounds o v, t)) → Ext (· = b) w w2 → K w2) : St w ⟨b, o, none⟩ v K :=
  ⟨(h.get i hi).can ho, k _ (h.upd i hi ((h.get i hi).set o v) ((Ext.refl (· = b) w).set (.inl rfl) v) hF) ((Ext.refl (· = b) w).set (.inl rfl) v)⟩
/-- Only one of them. -/
theorem Hx.only (h : Hx w0 F w L) (i : Nat) (hi : L[i]? = some (b, cs, t)) : Hx w0 F w [(b, cs, t)] :=
  ⟨fun p hp => by rw [List.mem_singleton.1 hp]; exact h.get i hi, by simp, h.ext⟩
theorem Hx.left {M : List (Nat × Array Value × TypeId)} (h : Hx w0 F w (L ++ M)) : Hx w0 F w L :=
  ⟨fun p hp => h.blk p (List.mem_append_left _ hp), by have := h.nodup; rw [List.map_append] at this; exact (List.nodup_append.1 this).1, h.ext⟩
/-- Other blocks have turned. -/
theorem Hx.other {G : Nat → Prop} {w2 : World} (h : Hx w0 F w L) (he : Ext G w w2) (hL : ∀ j, G j → j ∉ L.map (·.1)) (hF : ∀ j, G j → F j ∨ w0.heap.size ≤ j) : Hx w0 F w2 L :=
  ⟨fun p hp => he.blk (h.blk p hp) fun hg => hL _ hg (List.mem_map_of_mem hp), h.nodup, h.ext.trans he (fun _ h => h) fun k hk hg => (hF k hg).elim id fun h2 => by omega⟩
theorem Hx.size (h : Hx w0 F w L) : w0.heap.size ≤ w.heap.size := h.ext.size
theorem Hx.start (w : World) (F : Nat → Prop) : Hx w F w [] := ⟨fun _ h => (List.not_mem_nil h).elim, List.nodup_nil, Ext.refl _ _⟩
theorem Hx.one (h : Blk w b cs t) : Hx w F w [(b, cs, t)] := ⟨fun p hp => by rw [List.mem_singleton.1 hp]; exact h, by simp, Ext.refl _ _⟩
/-- The same world, another start. -/
theorem Hx.here (h : Hx w0 F w L) (G : Nat → Prop) : Hx w G w L := ⟨h.blk, h.nodup, Ext.refl _ _⟩
end

/-! ### Blocks that are new and known -/

def arr (L : List (Nat × List Value × TypeId)) : List (Nat × Array Value × TypeId) := L.map fun p => (p.1, p.2.1.toArray, p.2.2)
/-- Blocks made since the start, known whole; nothing older has changed. -/
structure Hn (w0 w : World) (L : List (Nat × List Value × TypeId)) : Prop where
  h : Hx w0 (fun _ => False) w (arr L)
  new : ∀ p ∈ L, w0.heap.size ≤ p.1
section
variable {w0 w : World} {L : List (Nat × List Value × TypeId)} {b o : Nat} {cs : List Value} {t : TypeId}
theorem arr_get {i : Nat} (hi : L[i]? = some (b, cs, t)) : (arr L)[i]? = some (b, cs.toArray, t) := by
  unfold arr
  rw [List.getElem?_map, hi]
  rfl
theorem arr_fst : (arr L).map (·.1) = L.map (·.1) := by
  unfold arr
  rw [List.map_map]
  rfl
theorem Hn.start (w : World) : Hn w w [] := ⟨Hx.start w _, fun _ h => (List.not_mem_nil h).elim⟩
theorem Hn.ext (h : Hn w0 w L) : Ext (fun _ => False) w0 w := h.h.ext
theorem Hn.size (h : Hn w0 w L) : w0.heap.size ≤ w.heap.size := h.h.ext.size
theorem Hn.get (h : Hn w0 w L) (i : Nat) (hi : L[i]? = some (b, cs, t)) : Blk w b cs.toArray t := h.h.get i (arr_get hi)
theorem Hn.lt (h : Hn w0 w L) (i : Nat) (hi : L[i]? = some (b, cs, t)) : b < w.heap.size := (h.get i hi).lt
theorem Hn.ge (h : Hn w0 w L) (i : Nat) (hi : L[i]? = some (b, cs, t)) : w0.heap.size ≤ b := h.new _ (List.mem_of_getElem? hi)
theorem Hn.all_lt (h : Hn w0 w L) {j : Nat} (hj : j ∈ L.map (·.1)) : j < w.heap.size := by
  obtain ⟨p, hp, e⟩ := List.mem_map.1 hj
  obtain ⟨i, hi⟩ := List.getElem?_of_mem hp
  have := h.lt i (b := p.1) (cs := p.2.1) (t := p.2.2) hi
  omega
theorem Hn.ld {α : Type} {V : α → Value} {K : α → Prop} {x : α} (h : Hn w0 w L) (i : Nat) (hi : L[i]? = some (b, cs, t)) (hx : cs[o]? = some (V x)) (hk : K x) : Ld w ⟨b, o, none⟩ V K :=
  h.h.ld i (arr_get hi) (by simpa using hx) hk
theorem Hn.set (h : Hn w0 w L) {w2 : World} {cs' : List Value} (i : Nat) (hi : L[i]? = some (b, cs, t)) (h2 : Hx w0 (fun _ => False) w2 ((arr L).set i (b, cs'.toArray, t))) : Hn w0 w2 (L.set i (b, cs', t)) :=
  ⟨by unfold arr at h2 ⊢; rw [List.map_set]; exact h2, fun p hp => by
    rcases List.mem_or_eq_of_mem_set hp with hp | rfl
    · exact h.new p hp
    · exact h.ge i hi⟩
theorem Hn.st' {v : Value} {K : World → Prop} (h : Hn w0 w L) (i : Nat) (hi : L[i]? = some (b, cs, t)) (ho : o < cs.length)
    (k : ∀ w2, Hn w0 w2 (L.set i (b, cs.set o v, t)) → Ext (· = b) w w2 → K w2) : St w ⟨b, o, none⟩ v K :=
  h.h.st' i (arr_get hi) (by simpa using ho) (.inr (h.ge i hi)) fun w2 h2 he => k w2 (h.set i hi (by simpa using h2)) he
theorem Hn.st {v : Value} {K : World → Prop} (h : Hn w0 w L) (i : Nat) (hi : L[i]? = some (b, cs, t)) (ho : o < cs.length)
    (k : ∀ w2, Hn w0 w2 (L.set i (b, cs.set o v, t)) → K w2) : St w ⟨b, o, none⟩ v K := h.st' i hi ho fun w2 h2 _ => k w2 h2
theorem Hn.keep (h : Hn w0 w L) {w2 : World} (he : Ext (fun _ => False) w w2) : Hn w0 w2 L := ⟨h.h.keep he, h.new⟩
theorem Hn.drew (h : Hn w0 w L) : Hn w0 w.drew L := ⟨h.h.drew, h.new⟩
theorem Hn.drewN (h : Hn w0 w L) {n : Nat} : Hn w0 (w.drewN n) L := ⟨h.h.drewN, h.new⟩
theorem Hn.nw' {K : World → Prop} (h : Hn w0 w L) (k : ∀ w2, Hn w0 w2 (L ++ [(w.heap.size, cs, t)]) → Ext (fun _ => False) w w2 → K w2) : Nw w (.cells cs.toArray t) K :=
  h.h.nw' fun w2 h2 he => k w2 ⟨by unfold arr at h2 ⊢; rw [List.map_append]; exact h2, fun p hp => (List.mem_append.1 hp).elim (h.new p) fun hp => by rw [List.mem_singleton.1 hp]; exact h.size⟩ he
theorem Hn.nw {K : World → Prop} (h : Hn w0 w L) (k : ∀ w2, Hn w0 w2 (L ++ [(w.heap.size, cs, t)]) → K w2) : Nw w (.cells cs.toArray t) K := h.nw' fun w2 h2 _ => k w2 h2
theorem Hn.left {M : List (Nat × List Value × TypeId)} (h : Hn w0 w (L ++ M)) : Hn w0 w L :=
  ⟨by have := h.h; unfold arr at this ⊢; rw [List.map_append] at this; exact this.left, fun p hp => h.new p (List.mem_append_left _ hp)⟩
/-- Other blocks have turned that are new too. -/
theorem Hn.other {G : Nat → Prop} {w2 : World} (h : Hn w0 w L) (he : Ext G w w2) (hG : ∀ j, G j → w0.heap.size ≤ j ∧ j ∉ L.map (·.1)) : Hn w0 w2 L :=
  ⟨h.h.other he (fun j hj => by rw [arr_fst]; exact (hG j hj).2) fun j hj => .inr (hG j hj).1, h.new⟩
theorem Hn.push (h : Hn w0 w L) (hb : Blk w b cs.toArray t) (hn : w0.heap.size ≤ b) (hne : b ∉ L.map (·.1)) : Hn w0 w (L ++ [(b, cs, t)]) :=
  ⟨by have := h.h.push hb (by rw [arr_fst]; exact hne); unfold arr at this ⊢; rw [List.map_append]; exact this, fun p hp => (List.mem_append.1 hp).elim (h.new p) fun hp => by rw [List.mem_singleton.1 hp]; exact hn⟩
end

/-! ### Numbers -/

theorem i64_id {n : Int} (h : -9223372036854775808 ≤ n ∧ n ≤ 9223372036854775807) : IntKind.i64.wrap n = n := IntWalk.i64_in n h
theorem u8_id {n : Int} (h : 0 ≤ n ∧ n ≤ 255) : IntKind.u8.wrap n = n := IntWalk.u8_in n h
theorem tdiv_id {a b : Int} (h : 0 ≤ a) : Int.tdiv a b = a / b := Int.tdiv_eq_ediv_of_nonneg h
theorem tmod_id {a b : Int} (h : 0 ≤ a) : Int.tmod a b = a % b := Int.tmod_eq_emod_of_nonneg h

/-! ### Branches and strings -/

theorem Br.dec {p : Prop} [Decidable p] {A B : Prop} (h1 : p → A) (h2 : ¬ p → B) : Br (decide p) A B := by
  by_cases h : p
  · rw [decide_eq_true h]; exact h1 h
  · rw [decide_eq_false h]; exact h2 h
theorem Br.eq {α : Type} [BEq α] [LawfulBEq α] {a b : α} {A B : Prop} (h1 : a = b → A) (h2 : a ≠ b → B) : Br (a == b) A B :=
  Br_of (fun h => h1 (by simpa using h)) fun h => h2 (by simpa using h)
theorem Br.ne {α : Type} [BEq α] [LawfulBEq α] {a b : α} {A B : Prop} (h1 : a ≠ b → A) (h2 : a = b → B) : Br (a != b) A B :=
  Br_of (fun h => h1 (by simpa using h)) fun h => h2 (by simpa using h)
theorem size_list (s : ByteArray) : s.size = s.data.toList.length := Array.length_toList.symm
theorem extract_list (s : ByteArray) (a b : Nat) : (s.extract a b).data.toList = (s.data.toList.drop a).take (b - a) := by
  rw [ByteArray.data_extract, Array.toList_extract, List.extract_eq_take_drop]
theorem extract_drop (s : ByteArray) (a : Nat) : (s.extract a s.size).data.toList = s.data.toList.drop a := by
  rw [extract_list, List.take_of_length_le]
  rw [List.length_drop, size_list]
  exact Nat.le_refl _
theorem bAt_list (s : ByteArray) (i : Nat) : bAt s (i : Int) = ((s.data.toList.getD i 0).toNat : Int) := by
  unfold bAt
  rw [Int.toNat_natCast, Array.getD_eq_getD_getElem?, List.getD_eq_getElem?_getD, Array.getElem?_toList]
theorem ba_ext {s t : ByteArray} (h : s.data.toList = t.data.toList) : s = t := by
  cases s; cases t
  simp only [ByteArray.mk.injEq]
  exact Array.toList_inj.1 h

@[simp] theorem Slc.v_inj (a b : Slc) : Slc.v a = Slc.v b ↔ a = b := by
  cases a; cases b; simp [Slc.v]
end Sh
end Go.Proofs.YtjbeembbnkmpeaaDoor

/- What 'append' does to a slice that owns its row; reading and writing a row; bytes to a string. Conditions: sizes. -/
namespace Go.Proofs.YtjbeembbnkmpeaaDoor
namespace Sh
set_option linter.unusedVariables false
set_option linter.unusedSimpArgs false

/-- A slice that owns its row: its elements' cells are xs (k cells an element of type e). -/
def Row (w : World) (s : Slc) (e : TypeId) (k : Nat) (xs : List Value) : Prop :=
  xs.length = s.len * k ∧ (s = ⟨none, 0, 0⟩ ∨ ∃ g cur, s.p = some ⟨g, 0, none⟩ ∧ Blk w g cur e ∧ s.len ≤ s.cap ∧ cur.size = s.cap * k ∧ cur.toList.take (s.len * k) = xs)
/-- Block j is the slice's row. -/
def Slc.own (s : Slc) (j : Nat) : Prop := ∃ a, s.p = some a ∧ a.block = j
theorem Row.nil (w : World) (e : TypeId) (k : Nat) : Row w ⟨none, 0, 0⟩ e k [] := ⟨by simp, .inl rfl⟩
theorem Row.own_lt {w : World} {s : Slc} {e : TypeId} {k : Nat} {xs : List Value} (h : Row w s e k xs) {j : Nat} (hj : s.own j) : j < w.heap.size := by
  obtain ⟨a, ha, rfl⟩ := hj
  rcases h.2 with rfl | ⟨g, cur, hp, hb, _⟩
  · cases ha
  · rw [hp] at ha; cases ha; exact hb.lt
theorem Row.keep {F : Nat → Prop} {w w' : World} {s : Slc} {e : TypeId} {k : Nat} {xs : List Value} (h : Row w s e k xs) (he : Ext F w w') (hn : ∀ j, s.own j → ¬ F j) : Row w' s e k xs := by
  refine ⟨h.1, ?_⟩
  rcases h.2 with h2 | ⟨g, cur, hp, hb, r⟩
  · exact .inl h2
  · exact .inr ⟨g, cur, hp, he.blk hb (hn g ⟨_, hp, rfl⟩), r⟩
theorem Row.new (w : World) (cs : Array Value) (e : TypeId) (k n : Nat) (h : cs.size = n * k) : Row (w.alloc (.cells cs e)) ⟨some ⟨w.heap.size, 0, none⟩, n, n⟩ e k cs.toList :=
  ⟨by simpa using h, .inr ⟨_, cs, rfl, Blk.new w cs e, Nat.le_refl _, h, List.take_of_length_le (by simp [h])⟩⟩
/-- A cell of a row. -/
theorem Row.cell {w : World} {s : Slc} {e : TypeId} {k : Nat} {xs : List Value} (h : Row w s e k xs) {j : Nat} {v : Value} (hj : xs[j]? = some v) : ∃ g, s.p = some ⟨g, 0, none⟩ ∧ w.cell? ⟨g, j, none⟩ = some v := by
  rcases h.2 with h2 | ⟨g, cur, hp, hb, _, _, ht⟩
  · have h1 := h.1
    rw [h2] at h1
    have : xs = [] := List.eq_nil_of_length_eq_zero (by simpa using h1)
    rw [this] at hj; cases hj
  · refine ⟨g, hp, ?_⟩
    rw [hb.cell]
    rw [← ht, List.getElem?_take] at hj
    split at hj
    · simpa using hj
    · cases hj

section
variable {P : Program} {w : World} {s : Slc} {t u ty e : TypeId} {i : TypeInfo} {z : Value} {xs news : List Value} {x : Value} {m : Nat}

/-- **append**: the source is 'x', of which it is known what its cells are. -/
theorem append_any (ht : P.underlying t = some (.slice e)) (hu : (∃ e', P.underlying u = some (.slice e')) ∨ P.underlying u = some .string) (hi : P.info? e = some i) (hz : i.zero = some z) (hzs : z.cells.size = i.size)
    (hlen : Builtin.lenOf x = pure m) (hcells : ∀ w' : World, w'.heap = w.heap → (Builtin.firstCells i.size m x).run P w' = .ok news.toArray w') (hl : news.length = m * i.size)
    (h1 : ∀ v ∈ news, v.oneCell' = true) (own : Row w s e i.size xs) (hb : (s.len + m) * i.bytes ≤ 140737488355328) (h63 : s.len + m ≤ 9223372036854775807) :
    ∃ s' w', RunV P (Builtin.append_ #[t, u] ty #[Slc.v s, x]) w (Slc.v s') w' ∧ Row w' s' e i.size (xs ++ news) ∧ s'.len = s.len + m ∧ Ext s.own w w' ∧ ∀ j, s'.own j → s.own j ∨ w.heap.size ≤ j := by
  have hx1 := own.1
  have hlenr : (xs ++ news).length = (s.len + m) * i.size := by rw [List.length_append, hx1, hl, Nat.add_mul]
  -- a new row
  have grown : ∀ (c : Nat), Row (w.drew.alloc (.cells (xs.toArray ++ news.toArray ++ Builtin.zeroCells z.cells (grownCap w (s.len + m) c e - (s.len + m))) e))
      ⟨some ⟨w.heap.size, 0, none⟩, s.len + m, grownCap w (s.len + m) c e⟩ e i.size (xs ++ news) := by
    intro c
    have hge := grownCap_ge w (s.len + m) c e
    refine ⟨hlenr, .inr ⟨_, _, rfl, Blk.new w.drew _ e, hge, ?_, ?_⟩⟩
    · simp only [Array.size_append, List.size_toArray, size_zeroCells, hzs, hx1, hl, ← Nat.add_mul]
      congr 1
      omega
    · simp only [Array.toList_append]
      rw [← hlenr]
      exact List.take_left
  have hfits : ∀ c, c < s.len + m → Builtin.nextslicecap (s.len + m) c * i.bytes ≤ 281474976710656 := fun c hc => growslice_fits hc hb
  have h63' : ¬ (((s.len + m : Nat) : Int) > IntKind.i64.max) := by
    have : IntKind.i64.max = 9223372036854775807 := by decide
    omega
  have hd : w.drew.heap = w.heap := rfl
  rcases own.2 with rfl | ⟨g, cur, hp, hg, hle, hsz, htk⟩
  · -- the slice is nil
    have hx : xs = [] := List.eq_nil_of_length_eq_zero (by simpa using hx1)
    subst hx
    by_cases hm : m = 0
    · subst hm
      have hn : news = [] := List.eq_nil_of_length_eq_zero (by simpa using hl)
      subst hn
      refine ⟨⟨none, 0, 0⟩, w, ?_, Row.nil w e i.size, rfl, Ext.refl _ _, fun j hj => .inl hj⟩
      have hc := hcells w rfl
      rcases hu with ⟨e', hu⟩ | hu <;>
        simp [RunV, Slc.v, Builtin.append_, run_underlying ht, run_underlying hu, sizeOf, typeInfo, hi, hlen, hc]
    · refine ⟨_, _, ?_, grown 0, rfl, ((Ext.refl _ w).drew).alloc _, fun j hj => ?_⟩
      · have hc := hcells w.drew hd
        have hn : ¬ (0 + m ≤ 0) := by omega
        have hf := hfits 0 (by simp; omega)
        simp only [Nat.zero_add] at hf h63'
        have hf' : ¬ (281474976710656 < Builtin.nextslicecap m 0 * i.bytes) := by omega
        have h6 : ¬ (9223372036854775807 < (m : Int)) := by simp only [Nat.zero_add] at h63; omega
        rcases hu with ⟨e', hu⟩ | hu <;>
          simp [RunV, Slc.v, Builtin.append_, run_underlying ht, run_underlying hu, sizeOf, typeInfo, zeroValue, hi, hz, hlen, hm, h6, hf', Question.forced, run_firstCells_none, hc, newRow, grownCap]
      · obtain ⟨a, ha, rfl⟩ := hj
        cases ha
        exact .inr (Nat.le_refl _)
  · obtain ⟨p, len, cap⟩ := s
    simp only at hp hle hsz htk hx1 hlenr hb h63 h63' hfits grown
    subst hp
    by_cases hroom : len + m ≤ cap
    · -- there is room
      have hfit : len * i.size + news.length ≤ cur.size := by rw [hl, hsz, ← Nat.add_mul]; exact Nat.mul_le_mul_right _ hroom
      have hst := run_storeCells_at P g (len * i.size) e news 0 cur w hg (by simpa using hfit) h1
      simp only [Nat.add_zero] at hst
      have hc := hcells w rfl
      refine ⟨⟨some ⟨g, 0, none⟩, len + m, cap⟩, w.setRow g (cur.toList.take (len * i.size) ++ news ++ cur.toList.drop (len * i.size + news.length)).toArray, ?_, ⟨hlenr, .inr ⟨g, (cur.toList.take (len * i.size) ++ news ++ cur.toList.drop (len * i.size + news.length)).toArray, rfl, setRow_heap w g cur _ e _ hg, hroom, ?_, ?_⟩⟩, rfl, ⟨rfl, rfl, rfl, by simp [World.setRow], fun k _ hk => setRow_other w g k _ (fun e => hk ⟨_, rfl, e.symm⟩)⟩, fun j hj => .inl hj⟩
      · rcases hu with ⟨e', hu⟩ | hu <;>
          simp [RunV, Slc.v, Builtin.append_, run_underlying ht, run_underlying hu, sizeOf, typeInfo, hi, hlen, hroom, hc, hst]
      · simp only [List.size_toArray, List.length_append, List.length_take, List.length_drop, Array.length_toList]
        omega
      · rw [htk]
        show List.take ((len + m) * i.size) _ = _
        rw [← hlenr]
        exact List.take_left
    · -- it must grow
      refine ⟨_, _, ?_, grown cap, rfl, ((Ext.refl _ w).drew).alloc _, fun j hj => ?_⟩
      · have hc := hcells w.drew hd
        have hf := hfits cap (by omega)
        have hf' : ¬ (281474976710656 < Builtin.nextslicecap (len + m) cap * i.bytes) := by omega
        have h6 : ¬ (9223372036854775807 < ((len : Int) + (m : Int))) := by omega
        have holds : ∀ j v, xs[j]? = some v → w.drew.cell? ((⟨g, 0, none⟩ : Addr).add j) = some v := fun j v hj => by
          obtain ⟨g', hg', h⟩ := own.cell hj
          cases hg'
          simpa using h
        have hfo := run_firstCells_some (P := P) w.drew i.size len ⟨g, 0, none⟩ len cap xs hx1 holds
        rcases hu with ⟨e', hu⟩ | hu <;>
          simp [RunV, Slc.v, Builtin.append_, run_underlying ht, run_underlying hu, sizeOf, typeInfo, zeroValue, hi, hz, hlen, hroom, h6, hf', Question.forced, hfo, hc, newRow, grownCap] <;>
          (congr 2; apply Array.ext'; simp [List.append_assoc])
      · obtain ⟨a, ha, rfl⟩ := hj
        cases ha
        exact .inr (Nat.le_refl _)
end
end Sh
end Go.Proofs.YtjbeembbnkmpeaaDoor
