/- The formulas of 14 functions of the program, written by program (gen.py); the kernel checks each. No condition. -/
import Derived.Test.YtjbeembbnkmpeaaDoorFn
import Derived.Test.YtjbeembbnkmpeaaDoorFnFix
import Derived.Test.YtjbeembbnkmpeaaDoorFnMat
import Derived.Test.YtjbeembbnkmpeaaDoorFnObj
import Derived.Test.YtjbeembbnkmpeaaDoorFnOps
import Derived.Test.YtjbeembbnkmpeaaDoorFnPath
namespace Go.Proofs.YtjbeembbnkmpeaaDoor
open Sh
set_option linter.unusedVariables false
set_option maxRecDepth 100000

def C30 (x1 : Option Addr) (o2 : ByteArray × Slc × ByteArray) (g3 : TyA29) (w : World) (R : (TyA75) → Bool → Int → World → Prop) : Prop :=
  Calls Tryd.prog 30 #[.pointer x1, .agg #[.string o2.1, Slc.v o2.2.1, .string o2.2.2], .agg (Sig.cells LiA29 g3).toArray] w fun e w' => ∃ r0 : TyA75, ∃ r1 : Bool, ∃ r2 : Int, e = .returned (.tuple #[.agg (Sig.cells LiA75 r0).toArray, .bool r1, .int .i64 r2]) ∧ R r0 r1 r2 w'
theorem C30.mono {x1 : Option Addr} {o2 : ByteArray × Slc × ByteArray} {g3 : TyA29} {w : World} {R R' : (TyA75) → Bool → Int → World → Prop} (h : C30 x1 o2 g3 w R) (hr : ∀ r0 r1 r2 w', R r0 r1 r2 w' → R' r0 r1 r2 w') : C30 x1 o2 g3 w R' :=
  Calls.mono h fun _ _ ⟨r0, r1, r2, he, hR⟩ => ⟨r0, r1, r2, he, hr _ _ _ _ hR⟩
def C35 (name1 : ByteArray) (w : World) (R : Bool → World → Prop) : Prop :=
  Calls Tryd.prog 35 #[.string name1] w fun e w' => ∃ r0 : Bool, e = .returned (.bool r0) ∧ R r0 w'
theorem C35.mono {name1 : ByteArray} {w : World} {R R' : Bool → World → Prop} (h : C35 name1 w R) (hr : ∀ r0 w', R r0 w' → R' r0 w') : C35 name1 w R' :=
  Calls.mono h fun _ _ ⟨r0, he, hR⟩ => ⟨r0, he, hr _ _ hR⟩
def C97 (name1 : ByteArray) (w : World) (R : Int → World → Prop) : Prop :=
  Calls Tryd.prog 97 #[.string name1] w fun e w' => ∃ r0 : Int, e = .returned (.int .i64 r0) ∧ R r0 w'
theorem C97.mono {name1 : ByteArray} {w : World} {R R' : Int → World → Prop} (h : C97 name1 w R) (hr : ∀ r0 w', R r0 w' → R' r0 w') : C97 name1 w R' :=
  Calls.mono h fun _ _ ⟨r0, he, hR⟩ => ⟨r0, he, hr _ _ hR⟩
def C36 (x1 : Slc × Bool) (o2 : ByteArray × Slc × ByteArray) (g3 : TyA29) (w : World) (R : (Slc × Bool) → (TyA75) → Bool → Int → World → Prop) : Prop :=
  Calls Tryd.prog 36 #[.agg #[Slc.v x1.1, .bool x1.2], .agg #[.string o2.1, Slc.v o2.2.1, .string o2.2.2], .agg (Sig.cells LiA29 g3).toArray] w fun e w' => ∃ r0 : Slc × Bool, ∃ r1 : TyA75, ∃ r2 : Bool, ∃ r3 : Int, e = .returned (.tuple #[.agg #[Slc.v r0.1, .bool r0.2], .agg (Sig.cells LiA75 r1).toArray, .bool r2, .int .i64 r3]) ∧ R r0 r1 r2 r3 w'
theorem C36.mono {x1 : Slc × Bool} {o2 : ByteArray × Slc × ByteArray} {g3 : TyA29} {w : World} {R R' : (Slc × Bool) → (TyA75) → Bool → Int → World → Prop} (h : C36 x1 o2 g3 w R) (hr : ∀ r0 r1 r2 r3 w', R r0 r1 r2 r3 w' → R' r0 r1 r2 r3 w') : C36 x1 o2 g3 w R' :=
  Calls.mono h fun _ _ ⟨r0, r1, r2, r3, he, hR⟩ => ⟨r0, r1, r2, r3, he, hr _ _ _ _ _ hR⟩
def C40 (a1 : Slc) (b2 : Slc) (w : World) (R : Bool → World → Prop) : Prop :=
  Calls Tryd.prog 40 #[Slc.v a1, Slc.v b2] w fun e w' => ∃ r0 : Bool, e = .returned (.bool r0) ∧ R r0 w'
theorem C40.mono {a1 : Slc} {b2 : Slc} {w : World} {R R' : Bool → World → Prop} (h : C40 a1 b2 w R) (hr : ∀ r0 w', R r0 w' → R' r0 w') : C40 a1 b2 w R' :=
  Calls.mono h fun _ _ ⟨r0, he, hR⟩ => ⟨r0, he, hr _ _ hR⟩
def C37 (a1 : TyA75) (b2 : TyA75) (w : World) (R : Bool → World → Prop) : Prop :=
  Calls Tryd.prog 37 #[.agg (Sig.cells LiA75 a1).toArray, .agg (Sig.cells LiA75 b2).toArray] w fun e w' => ∃ r0 : Bool, e = .returned (.bool r0) ∧ R r0 w'
theorem C37.mono {a1 : TyA75} {b2 : TyA75} {w : World} {R R' : Bool → World → Prop} (h : C37 a1 b2 w R) (hr : ∀ r0 w', R r0 w' → R' r0 w') : C37 a1 b2 w R' :=
  Calls.mono h fun _ _ ⟨r0, he, hR⟩ => ⟨r0, he, hr _ _ hR⟩
def C98 (name1 : ByteArray) (w : World) (R : Bool → World → Prop) : Prop :=
  Calls Tryd.prog 98 #[.string name1] w fun e w' => ∃ r0 : Bool, e = .returned (.bool r0) ∧ R r0 w'
theorem C98.mono {name1 : ByteArray} {w : World} {R R' : Bool → World → Prop} (h : C98 name1 w R) (hr : ∀ r0 w', R r0 w' → R' r0 w') : C98 name1 w R' :=
  Calls.mono h fun _ _ ⟨r0, he, hR⟩ => ⟨r0, he, hr _ _ hR⟩
def C99 (o1 : ByteArray × Slc × ByteArray) (w : World) (R : Slc → Int → World → Prop) : Prop :=
  Calls Tryd.prog 99 #[.agg #[.string o1.1, Slc.v o1.2.1, .string o1.2.2]] w fun e w' => ∃ r0 : Slc, ∃ r1 : Int, e = .returned (.tuple #[Slc.v r0, .int .i64 r1]) ∧ R r0 r1 w'
theorem C99.mono {o1 : ByteArray × Slc × ByteArray} {w : World} {R R' : Slc → Int → World → Prop} (h : C99 o1 w R) (hr : ∀ r0 r1 w', R r0 r1 w' → R' r0 r1 w') : C99 o1 w R' :=
  Calls.mono h fun _ _ ⟨r0, r1, he, hR⟩ => ⟨r0, r1, he, hr _ _ _ hR⟩
def C100 (name1 : ByteArray) (n2 : Slc) (w : World) (R : Slc → Int → World → Prop) : Prop :=
  Calls Tryd.prog 100 #[.string name1, Slc.v n2] w fun e w' => ∃ r0 : Slc, ∃ r1 : Int, e = .returned (.tuple #[Slc.v r0, .int .i64 r1]) ∧ R r0 r1 w'
theorem C100.mono {name1 : ByteArray} {n2 : Slc} {w : World} {R R' : Slc → Int → World → Prop} (h : C100 name1 n2 w R) (hr : ∀ r0 r1 w', R r0 r1 w' → R' r0 r1 w') : C100 name1 n2 w R' :=
  Calls.mono h fun _ _ ⟨r0, r1, he, hR⟩ => ⟨r0, r1, he, hr _ _ _ hR⟩
def C101 (l1 : Slc) (w : World) (R : (Int × Int) → World → Prop) : Prop :=
  Calls Tryd.prog 101 #[Slc.v l1] w fun e w' => ∃ r0 : Int × Int, e = .returned (.agg #[.int .i64 (r0.1), .int .i64 (r0.2)]) ∧ R r0 w'
theorem C101.mono {l1 : Slc} {w : World} {R R' : (Int × Int) → World → Prop} (h : C101 l1 w R) (hr : ∀ r0 w', R r0 w' → R' r0 w') : C101 l1 w R' :=
  Calls.mono h fun _ _ ⟨r0, he, hR⟩ => ⟨r0, he, hr _ _ hR⟩
def C102 (name1 : ByteArray) (p2 : Slc) (here3 : Int × Int) (w : World) (R : Slc → World → Prop) : Prop :=
  Calls Tryd.prog 102 #[.string name1, Slc.v p2, .agg #[.int .i64 (here3.1), .int .i64 (here3.2)]] w fun e w' => ∃ r0 : Slc, e = .returned (Slc.v r0) ∧ R r0 w'
theorem C102.mono {name1 : ByteArray} {p2 : Slc} {here3 : Int × Int} {w : World} {R R' : Slc → World → Prop} (h : C102 name1 p2 here3 w R) (hr : ∀ r0 w', R r0 w' → R' r0 w') : C102 name1 p2 here3 w R' :=
  Calls.mono h fun _ _ ⟨r0, he, hR⟩ => ⟨r0, he, hr _ _ hR⟩
def C38 (x1 : Slc × Bool) (o2 : ByteArray × Slc × ByteArray) (m3 : Int × Int × Int × Int × Int × Int) (w : World) (R : (Slc × Bool) → Int → World → Prop) : Prop :=
  Calls Tryd.prog 38 #[.agg #[Slc.v x1.1, .bool x1.2], .agg #[.string o2.1, Slc.v o2.2.1, .string o2.2.2], .agg #[.int .i64 (m3.1), .int .i64 (m3.2.1), .int .i64 (m3.2.2.1), .int .i64 (m3.2.2.2.1), .int .i64 (m3.2.2.2.2.1), .int .i64 (m3.2.2.2.2.2)]] w fun e w' => ∃ r0 : Slc × Bool, ∃ r1 : Int, e = .returned (.tuple #[.agg #[Slc.v r0.1, .bool r0.2], .int .i64 r1]) ∧ R r0 r1 w'
theorem C38.mono {x1 : Slc × Bool} {o2 : ByteArray × Slc × ByteArray} {m3 : Int × Int × Int × Int × Int × Int} {w : World} {R R' : (Slc × Bool) → Int → World → Prop} (h : C38 x1 o2 m3 w R) (hr : ∀ r0 r1 w', R r0 r1 w' → R' r0 r1 w') : C38 x1 o2 m3 w R' :=
  Calls.mono h fun _ _ ⟨r0, r1, he, hR⟩ => ⟨r0, r1, he, hr _ _ _ hR⟩
def C103 (l1 : Slc) (w : World) (R : Slc → World → Prop) : Prop :=
  Calls Tryd.prog 103 #[Slc.v l1] w fun e w' => ∃ r0 : Slc, e = .returned (Slc.v r0) ∧ R r0 w'
theorem C103.mono {l1 : Slc} {w : World} {R R' : Slc → World → Prop} (h : C103 l1 w R) (hr : ∀ r0 w', R r0 w' → R' r0 w') : C103 l1 w R' :=
  Calls.mono h fun _ _ ⟨r0, he, hR⟩ => ⟨r0, he, hr _ _ hR⟩
def C39 (l1 : Slc) (w : World) (R : (Int × Int × Int × Int) → Bool → World → Prop) : Prop :=
  Calls Tryd.prog 39 #[Slc.v l1] w fun e w' => ∃ r0 : Int × Int × Int × Int, ∃ r1 : Bool, e = .returned (.tuple #[.agg #[.int .i64 (r0.1), .int .i64 (r0.2.1), .int .i64 (r0.2.2.1), .int .i64 (r0.2.2.2)], .bool r1]) ∧ R r0 r1 w'
theorem C39.mono {l1 : Slc} {w : World} {R R' : (Int × Int × Int × Int) → Bool → World → Prop} (h : C39 l1 w R) (hr : ∀ r0 r1 w', R r0 r1 w' → R' r0 r1 w') : C39 l1 w R' :=
  Calls.mono h fun _ _ ⟨r0, r1, he, hR⟩ => ⟨r0, r1, he, hr _ _ _ hR⟩

def S30J1 (x1 : Option Addr) (vw5 : World) (s52 : Addr) (R : (TyA75) → Bool → Int → World → Prop) (s61 : Unit) (vw62 : World) : Prop :=
  Nn x1 fun a67 =>
  Ld vw62 (a67.add 3) Value.bool fun (x68 : Bool) =>
  Br x68 (Ld vw62 s52 (Value.int .i64) fun (x69 : Int) =>
    St vw62 s52 (.int .i64 (ior .i64 x69 8)) fun vw70 =>
    Nn x1 fun a71 =>
    St vw70 a71 (Slc.v ((⟨none, 0, 0⟩ : Slc))) fun vw72 =>
    St vw72 (a71.add 1) (.int .i64 0) fun vw73 =>
    St vw73 (a71.add 2) (.int .i64 0) fun vw74 =>
    St vw74 (a71.add 3) (.bool false) fun vw75 =>
    Ld vw75 (s52.add 1) Slc.v fun (x76 : Slc) =>
    Br (((x76.len : Nat) : Int) == 0) (StT (⟨vw5.heap.size, 0, none⟩ : Addr) 0 LiA75 ((0, (⟨none, 0, 0⟩ : Slc), 0, 0, 0, 0, 0, 0, 0, 0, 0, 0) : TyA75) vw75 fun vw77 =>
      LdT vw77 (⟨vw5.heap.size, 0, none⟩ : Addr) 0 LiA75 fun (x78 : TyA75) =>
      R x78 false 0 vw77) (Ld vw75 s52 (Value.int .i64) fun (x79 : Int) =>
      Br (x79 == 0) (StT (⟨vw5.heap.size, 0, none⟩ : Addr) 0 LiA75 ((0, (⟨none, 0, 0⟩ : Slc), 0, 0, 0, 0, 0, 0, 0, 0, 0, 0) : TyA75) vw75 fun vw80 =>
        LdT vw80 (⟨vw5.heap.size, 0, none⟩ : Addr) 0 LiA75 fun (x81 : TyA75) =>
        R x81 false 0 vw80) (LdT vw75 s52 0 LiA75 fun (x82 : TyA75) =>
        StT (⟨vw5.heap.size, 0, none⟩ : Addr) 0 LiA75 x82 vw75 fun vw83 =>
        LdT vw83 (⟨vw5.heap.size, 0, none⟩ : Addr) 0 LiA75 fun (x84 : TyA75) =>
        R x84 true 0 vw83))) (Nn x1 fun a85 =>
    St vw62 a85 (Slc.v ((⟨none, 0, 0⟩ : Slc))) fun vw86 =>
    St vw86 (a85.add 1) (.int .i64 0) fun vw87 =>
    St vw87 (a85.add 2) (.int .i64 0) fun vw88 =>
    St vw88 (a85.add 3) (.bool false) fun vw89 =>
    Ld vw89 (s52.add 1) Slc.v fun (x90 : Slc) =>
    Br (((x90.len : Nat) : Int) == 0) (StT (⟨vw5.heap.size, 0, none⟩ : Addr) 0 LiA75 ((0, (⟨none, 0, 0⟩ : Slc), 0, 0, 0, 0, 0, 0, 0, 0, 0, 0) : TyA75) vw89 fun vw91 =>
      LdT vw91 (⟨vw5.heap.size, 0, none⟩ : Addr) 0 LiA75 fun (x92 : TyA75) =>
      R x92 false 0 vw91) (Ld vw89 s52 (Value.int .i64) fun (x93 : Int) =>
      Br (x93 == 0) (StT (⟨vw5.heap.size, 0, none⟩ : Addr) 0 LiA75 ((0, (⟨none, 0, 0⟩ : Slc), 0, 0, 0, 0, 0, 0, 0, 0, 0, 0) : TyA75) vw89 fun vw94 =>
        LdT vw94 (⟨vw5.heap.size, 0, none⟩ : Addr) 0 LiA75 fun (x95 : TyA75) =>
        R x95 false 0 vw94) (LdT vw89 s52 0 LiA75 fun (x96 : TyA75) =>
        StT (⟨vw5.heap.size, 0, none⟩ : Addr) 0 LiA75 x96 vw89 fun vw97 =>
        LdT vw97 (⟨vw5.heap.size, 0, none⟩ : Addr) 0 LiA75 fun (x98 : TyA75) =>
        R x98 true 0 vw97)))
def S30J2 (x1 : Option Addr) (vw5 : World) (vw14 : World) (R : (TyA75) → Bool → Int → World → Prop) (s52 : Addr) (vw53 : World) : Prop :=
  Join (S30J1 x1 vw5 s52 R) fun (vJ99 : Unit → World → Prop) =>
    Ld vw53 ((⟨vw14.heap.size, 0, none⟩ : Addr).add 1) Value.bool fun (x100 : Bool) =>
    Br x100 (Ld vw53 (s52.add 1) Slc.v fun (x101 : Slc) =>
      Br (decide (((x101.len : Nat) : Int) > 0)) (Ld vw53 (s52.add 1) Slc.v fun (x102 : Slc) =>
        Nw vw53 (.cells #[.int .i64 4, .int .i64 0, .int .i64 0, .int .i64 0, .int .i64 0, .int .i64 0, .int .i64 0] 67) fun vw103 =>
        Rn Tryd.prog (Builtin.append_ #[64, 64] 64 #[Slc.v x102, Slc.v ((⟨some ⟨vw53.heap.size, 0, none⟩, 1, 1⟩ : Slc))]) vw103 Slc.v fun (x104 : Slc) vw105 =>
        St vw105 (s52.add 1) (Slc.v x104) fun vw106 =>
        vJ99 () vw106) (vJ99 () vw53)) (vJ99 () vw53)
/-- (*foliant/path.Path).Paint -/
def S30 (x1 : Option Addr) (o2 : ByteArray × Slc × ByteArray) (g3 : TyA29) (w : World) (R : (TyA75) → Bool → Int → World → Prop) : Prop :=
  Nw w (.cells #[.string o2.1, Slc.v o2.2.1, .string o2.2.2] 63) fun vw4 =>
  Nw vw4 (.cells (Sig.cells LiA29 g3).toArray 30) fun vw5 =>
  Nw vw5 (.cells #[.int .i64 0, Slc.v ((⟨none, 0, 0⟩ : Slc)), .int .i64 0, .int .i64 0, .int .i64 0, .int .i64 0, .int .i64 0, .int .i64 0, .int .i64 0, .int .i64 0, .int .i64 0, .int .i64 0] 76) fun vw6 =>
  Br x1.isNone (StT (⟨vw5.heap.size, 0, none⟩ : Addr) 0 LiA75 ((0, (⟨none, 0, 0⟩ : Slc), 0, 0, 0, 0, 0, 0, 0, 0, 0, 0) : TyA75) vw6 fun vw8 =>
    LdT vw8 (⟨vw5.heap.size, 0, none⟩ : Addr) 0 LiA75 fun (x9 : TyA75) =>
    R x9 false 1 vw8) (Ld vw6 (⟨0, 0, none⟩ : Addr) Value.map fun (x10 : Option Nat) =>
    Ld vw6 (⟨w.heap.size, 0, none⟩ : Addr) Value.string fun (x11 : ByteArray) =>
    ∃ x12 : Int × Bool, ∃ vok13 : Bool, ∃ vw14 : World, RunV Tryd.prog (Instr.lookup 158 (.map x10) (.string x11) true) vw6 (.tuple #[.agg #[.int .i64 (x12.1), .bool x12.2], .bool vok13]) vw14 ∧ Nw vw14 (.cells #[.int .i64 0, .bool false] 156) fun vw15 =>
    St vw15 (⟨vw14.heap.size, 0, none⟩ : Addr) (.int .i64 (x12.1)) fun vw16 =>
    St vw16 ((⟨vw14.heap.size, 0, none⟩ : Addr).add 1) (.bool x12.2) fun vw17 =>
    Br (!vok13) (StT (⟨vw5.heap.size, 0, none⟩ : Addr) 0 LiA75 ((0, (⟨none, 0, 0⟩ : Slc), 0, 0, 0, 0, 0, 0, 0, 0, 0, 0) : TyA75) vw17 fun vw19 =>
      LdT vw19 (⟨vw5.heap.size, 0, none⟩ : Addr) 0 LiA75 fun (x20 : TyA75) =>
      R x20 false 8 vw19) (Ld vw17 (⟨w.heap.size, 0, none⟩ : Addr) Value.string fun (x27 : ByteArray) =>
      Ld vw17 ((⟨w.heap.size, 0, none⟩ : Addr).add 1) Slc.v fun (x28 : Slc) =>
      Ld vw17 ((⟨w.heap.size, 0, none⟩ : Addr).add 2) Value.string fun (x29 : ByteArray) =>
      C80 (x27, x28, x29) vw17 fun r30 vw31 =>
        Br (r30 != 0) (StT (⟨vw5.heap.size, 0, none⟩ : Addr) 0 LiA75 ((0, (⟨none, 0, 0⟩ : Slc), 0, 0, 0, 0, 0, 0, 0, 0, 0, 0) : TyA75) vw31 fun vw32 =>
          LdT vw32 (⟨vw5.heap.size, 0, none⟩ : Addr) 0 LiA75 fun (x33 : TyA75) =>
          R x33 false r30 vw32) (Join (S30J2 x1 vw5 vw14 R) fun (vJ107 : Addr → World → Prop) =>
            ∃ vS108 : World → Prop, vS108 vw31.drew ∧ LdS vS108 (⟨vw14.heap.size, 0, none⟩ : Addr) (Value.int .i64) fun (x109 : Int) =>
            Nn x1 fun a110 =>
            LdS vS108 a110 Slc.v fun (x111 : Slc) =>
            LdS vS108 ((⟨vw4.heap.size, 0, none⟩ : Addr).add 12) (Value.int .i64) fun (x112 : Int) =>
            LdS vS108 (((⟨vw4.heap.size, 0, none⟩ : Addr).add 12).add 1) (Value.int .i64) fun (x113 : Int) =>
            LdS vS108 (((⟨vw4.heap.size, 0, none⟩ : Addr).add 12).add 2) (Value.int .i64) fun (x114 : Int) =>
            LdS vS108 (((⟨vw4.heap.size, 0, none⟩ : Addr).add 12).add 3) (Value.int .i64) fun (x115 : Int) =>
            LdS vS108 (((⟨vw4.heap.size, 0, none⟩ : Addr).add 12).add 4) (Value.int .i64) fun (x116 : Int) =>
            LdS vS108 ((⟨vw4.heap.size, 0, none⟩ : Addr).add 17) (Value.int .i64) fun (x117 : Int) =>
            LdS vS108 (((⟨vw4.heap.size, 0, none⟩ : Addr).add 17).add 1) (Value.int .i64) fun (x118 : Int) =>
            LdS vS108 (((⟨vw4.heap.size, 0, none⟩ : Addr).add 17).add 2) (Value.int .i64) fun (x119 : Int) =>
            LdS vS108 (((⟨vw4.heap.size, 0, none⟩ : Addr).add 17).add 3) (Value.int .i64) fun (x120 : Int) =>
            LdS vS108 (((⟨vw4.heap.size, 0, none⟩ : Addr).add 17).add 4) (Value.int .i64) fun (x121 : Int) =>
            (Nw vw31.drew (.cells #[.int .i64 0, Slc.v ((⟨none, 0, 0⟩ : Slc)), .int .i64 0, .int .i64 0, .int .i64 0, .int .i64 0, .int .i64 0, .int .i64 0, .int .i64 0, .int .i64 0, .int .i64 0, .int .i64 0] 76) fun vw122 =>
              StT (⟨vw31.drew.heap.size, 0, none⟩ : Addr) 0 LiA75 ((x109, x111, x112, x113, x114, x115, x116, x117, x118, x119, x120, x121) : TyA75) vw122 fun vw123 =>
              vJ107 (⟨vw31.drew.heap.size, 0, none⟩ : Addr) vw123) ∧
            (Nw vw31.drew (.cells #[.int .i64 0, Slc.v ((⟨none, 0, 0⟩ : Slc)), .int .i64 0, .int .i64 0, .int .i64 0, .int .i64 0, .int .i64 0, .int .i64 0, .int .i64 0, .int .i64 0, .int .i64 0, .int .i64 0] 76) fun vw124 =>
              vS108 vw124 ∧ StT (⟨vw31.drew.heap.size, 0, none⟩ : Addr) 0 LiA75 ((x109, x111, x112, x113, x114, x115, x116, x117, x118, x119, x120, x121) : TyA75) vw124 fun vw125 =>
              vJ107 (⟨vw31.drew.heap.size, 0, none⟩ : Addr) vw125))))
def pl30 : Plan := (.seq (.reg .seq) (.seq (.seq (.reg .seq) (.cond (.seq (.reg .seq) .leaf) .leaf)) (.seq (.reg .seq) (.seq (.seq (.reg .seq) (.cond (.seq (.reg .seq) .leaf) .leaf)) (.seq (.seq (.reg .seq) (.seq (.reg .seq) (.cond (.seq (.reg .seq) .leaf) .leaf))) (.join [(12, (.one .addr))] [0, 6, 9] (.reg (.held [10] (.take 0 (.take 1 (.take 2 (.take 3 (.take 4 (.take 5 (.take 6 (.take 7 (.take 8 (.take 9 (.effs 10 (some [11]) (.eff 11 (some [12]) (.eff 12 (some []) .done)) (.eff 11 none (.eff 10 (some [12]) (.eff 12 (some []) .done)))))))))))))))) (.join [] [0, 6, 12] (.seq (.reg .seq) (.cond (.reg .seq) .leaf)) (.seq (.seq (.reg .seq) (.cond (.reg .seq) .leaf)) (.seq (.reg .seq) (.seq (.seq (.reg .seq) (.cond (.seq (.reg .seq) .leaf) .leaf)) (.seq (.reg .seq) .leaf)))))))))))
set_option maxRecDepth 100000 in
theorem T30 (x1 : Option Addr) (o2 : ByteArray × Slc × ByteArray) (g3 : TyA29) (w : World) (R : (TyA75) → Bool → Int → World → Prop) (h : S30 x1 o2 g3 w R) : C30 x1 (o2.1, o2.2.1, o2.2.2) g3 w R := by
  have e : fnT Tryd.prog ⟨FF, MAY, (fun _ _ => False)⟩ pl30 Tryd.f30 [.pointer x1, .agg #[.string o2.1, Slc.v o2.2.1, .string o2.2.2], .agg (Sig.cells LiA29 g3).toArray] w [(.agg [(.int .i64), .slc, (.int .i64), (.int .i64), (.int .i64), (.int .i64), (.int .i64), (.int .i64), (.int .i64), (.int .i64), (.int .i64), (.int .i64)]), (.one .bool), (.one (.int .i64))] (fun s w => R s.1 s.2.1 s.2.2 w) = S30 x1 o2 g3 w R := by kernel_rfl
  exact (fn_calls okF okM Tryd.func30 (by kernel_rfl) (by kernel_rfl) (e.mpr h)).mono fun _ _ ⟨s, he, hR⟩ => ⟨s.1, s.2.1, s.2.2, he, hR⟩

/-- foliant/foliantref45.Paints -/
def S35 (name1 : ByteArray) (w : World) (R : Bool → World → Prop) : Prop :=
  Br (name1.toList == (⟨#[83]⟩ : ByteArray).toList) (Br (name1.toList == (⟨#[83]⟩ : ByteArray).toList) (R true w) (R false w)) (Br (name1.toList == (⟨#[115]⟩ : ByteArray).toList) (Br (name1.toList == (⟨#[115]⟩ : ByteArray).toList) (R true w) (R false w)) (Br (name1.toList == (⟨#[102]⟩ : ByteArray).toList) (Br (name1.toList == (⟨#[102]⟩ : ByteArray).toList) (R true w) (R false w)) (Br (name1.toList == (⟨#[70]⟩ : ByteArray).toList) (Br (name1.toList == (⟨#[70]⟩ : ByteArray).toList) (R true w) (R false w)) (Br (name1.toList == (⟨#[102, 42]⟩ : ByteArray).toList) (Br (name1.toList == (⟨#[102, 42]⟩ : ByteArray).toList) (R true w) (R false w)) (Br (name1.toList == (⟨#[66]⟩ : ByteArray).toList) (Br (name1.toList == (⟨#[66]⟩ : ByteArray).toList) (R true w) (R false w)) (Br (name1.toList == (⟨#[66, 42]⟩ : ByteArray).toList) (Br (name1.toList == (⟨#[66, 42]⟩ : ByteArray).toList) (R true w) (R false w)) (Br (name1.toList == (⟨#[98]⟩ : ByteArray).toList) (Br (name1.toList == (⟨#[98]⟩ : ByteArray).toList) (R true w) (R false w)) (Br (name1.toList == (⟨#[98, 42]⟩ : ByteArray).toList) (Br (name1.toList == (⟨#[98, 42]⟩ : ByteArray).toList) (R true w) (R false w)) (Br (name1.toList == (⟨#[110]⟩ : ByteArray).toList) (R true w) (R false w))))))))))
def pl35 : Plan := (.seq (.reg .seq) (.seq (.seq (.reg .seq) (.block (.seq (.seq (.reg .seq) (.cond .leaf (.seq (.reg .seq) (.cond .leaf (.seq (.reg .seq) (.cond .leaf (.seq (.reg .seq) (.cond .leaf (.seq (.reg .seq) (.cond .leaf (.seq (.reg .seq) (.cond .leaf (.seq (.reg .seq) (.cond .leaf (.seq (.reg .seq) (.cond .leaf (.seq (.reg .seq) (.cond .leaf (.reg .seq))))))))))))))))))) (.cond (.seq (.reg .seq) .leaf) .leaf)))) (.seq (.reg .seq) .leaf)))
set_option maxRecDepth 100000 in
theorem T35 (name1 : ByteArray) (w : World) (R : Bool → World → Prop) (h : S35 name1 w R) : C35 name1 w R := by
  have e : fnT Tryd.prog ⟨FF, MAY, (fun _ _ => False)⟩ pl35 Tryd.f35 [.string name1] w [(.one .bool)] (fun s w => R s w) = S35 name1 w R := by kernel_rfl
  exact (fn_calls okF okM Tryd.func35 (by kernel_rfl) (by kernel_rfl) (e.mpr h)).mono fun _ _ ⟨s, he, hR⟩ => ⟨s, he, hR⟩

def S97J1 (name1 : ByteArray) (R : Int → World → Prop) (s4 : Bool) (vw5 : World) : Prop :=
  Br s4 (R 1 vw5) (Br (name1.toList == (⟨#[102, 42]⟩ : ByteArray).toList) (R 3 vw5) (Br (name1.toList == (⟨#[66]⟩ : ByteArray).toList) (Br (name1.toList == (⟨#[66]⟩ : ByteArray).toList) (R 5 vw5) (Br (name1.toList == (⟨#[66, 42]⟩ : ByteArray).toList) (Br (name1.toList == (⟨#[66, 42]⟩ : ByteArray).toList) (R 7 vw5) (R 0 vw5)) (Br (name1.toList == (⟨#[98, 42]⟩ : ByteArray).toList) (R 7 vw5) (R 0 vw5)))) (Br (name1.toList == (⟨#[98]⟩ : ByteArray).toList) (R 5 vw5) (Br (name1.toList == (⟨#[66, 42]⟩ : ByteArray).toList) (Br (name1.toList == (⟨#[66, 42]⟩ : ByteArray).toList) (R 7 vw5) (R 0 vw5)) (Br (name1.toList == (⟨#[98, 42]⟩ : ByteArray).toList) (R 7 vw5) (R 0 vw5))))))
def S97J2 (name1 : ByteArray) (R : Int → World → Prop) (s2 : Bool) (vw3 : World) : Prop :=
  Br s2 (R 4 vw3) (Join (S97J1 name1 R) fun (vJ6 : Bool → World → Prop) =>
      Br (name1.toList == (⟨#[102]⟩ : ByteArray).toList) (vJ6 (name1.toList == (⟨#[102]⟩ : ByteArray).toList) vw3) (vJ6 (name1.toList == (⟨#[70]⟩ : ByteArray).toList) vw3))
/-- foliant/foliantref45.how -/
def S97 (name1 : ByteArray) (w : World) (R : Int → World → Prop) : Prop :=
  Join (S97J2 name1 R) fun (vJ7 : Bool → World → Prop) =>
    Br (name1.toList == (⟨#[83]⟩ : ByteArray).toList) (vJ7 (name1.toList == (⟨#[83]⟩ : ByteArray).toList) w) (vJ7 (name1.toList == (⟨#[115]⟩ : ByteArray).toList) w)
def pl97 : Plan := (.seq (.reg .seq) (.seq (.seq (.reg .seq) (.block (.join [(4, (.one .bool))] [3] (.seq (.reg .seq) (.cond .leaf (.reg .seq))) (.cond (.seq (.reg .seq) .leaf) (.join [(7, (.one .bool))] [3] (.seq (.reg .seq) (.cond .leaf (.reg .seq))) (.cond (.seq (.reg .seq) .leaf) (.seq (.reg .seq) (.cond (.seq (.reg .seq) .leaf) (.seq (.seq (.reg .seq) (.cond .leaf (.reg .seq))) (.cond (.seq (.reg .seq) .leaf) (.seq (.seq (.reg .seq) (.cond .leaf (.reg .seq))) (.cond (.seq (.reg .seq) .leaf) .leaf)))))))))))) (.seq (.reg .seq) .leaf)))
set_option maxRecDepth 100000 in
theorem T97 (name1 : ByteArray) (w : World) (R : Int → World → Prop) (h : S97 name1 w R) : C97 name1 w R := by
  have e : fnT Tryd.prog ⟨FF, MAY, (fun _ _ => False)⟩ pl97 Tryd.f97 [.string name1] w [(.one (.int .i64))] (fun s w => R s w) = S97 name1 w R := by kernel_rfl
  exact (fn_calls okF okM Tryd.func97 (by kernel_rfl) (by kernel_rfl) (e.mpr h)).mono fun _ _ ⟨s, he, hR⟩ => ⟨s, he, hR⟩

def S36J1 (w : World) (vw5 : World) (vw6 : World) (vw7 : World) (r54 : Int) (R : (Slc × Bool) → (TyA75) → Bool → Int → World → Prop) (s77 : Slc) (vw78 : World) : Prop :=
  Ld vw78 ((⟨w.heap.size, 0, none⟩ : Addr).add 1) Value.bool fun (x80 : Bool) =>
  Br x80 (Br (((s77.len : Nat) : Int) == 0) (St vw78 (⟨vw6.heap.size, 0, none⟩ : Addr) (Slc.v ((⟨none, 0, 0⟩ : Slc))) fun vw87 =>
      St vw87 ((⟨vw6.heap.size, 0, none⟩ : Addr).add 1) (.bool false) fun vw88 =>
      StT (⟨vw7.heap.size, 0, none⟩ : Addr) 0 LiA75 ((0, (⟨none, 0, 0⟩ : Slc), 0, 0, 0, 0, 0, 0, 0, 0, 0, 0) : TyA75) vw88 fun vw89 =>
      Ld vw89 (⟨vw6.heap.size, 0, none⟩ : Addr) Slc.v fun (x90 : Slc) =>
      Ld vw89 ((⟨vw6.heap.size, 0, none⟩ : Addr).add 1) Value.bool fun (x91 : Bool) =>
      LdT vw89 (⟨vw7.heap.size, 0, none⟩ : Addr) 0 LiA75 fun (x92 : TyA75) =>
      R (x90, x91) x92 false 0 vw89) (Br ((IntKind.i64.wrap (r54 + 8)) == 0) (St vw78 (⟨vw6.heap.size, 0, none⟩ : Addr) (Slc.v ((⟨none, 0, 0⟩ : Slc))) fun vw93 =>
        St vw93 ((⟨vw6.heap.size, 0, none⟩ : Addr).add 1) (.bool false) fun vw94 =>
        StT (⟨vw7.heap.size, 0, none⟩ : Addr) 0 LiA75 ((0, (⟨none, 0, 0⟩ : Slc), 0, 0, 0, 0, 0, 0, 0, 0, 0, 0) : TyA75) vw94 fun vw95 =>
        Ld vw95 (⟨vw6.heap.size, 0, none⟩ : Addr) Slc.v fun (x96 : Slc) =>
        Ld vw95 ((⟨vw6.heap.size, 0, none⟩ : Addr).add 1) Value.bool fun (x97 : Bool) =>
        LdT vw95 (⟨vw7.heap.size, 0, none⟩ : Addr) 0 LiA75 fun (x98 : TyA75) =>
        R (x96, x97) x98 false 0 vw95) (∃ vS99 : World → Prop, vS99 vw78.drew ∧ LdS vS99 ((⟨vw5.heap.size, 0, none⟩ : Addr).add 12) (Value.int .i64) fun (x100 : Int) =>
        LdS vS99 (((⟨vw5.heap.size, 0, none⟩ : Addr).add 12).add 1) (Value.int .i64) fun (x101 : Int) =>
        LdS vS99 (((⟨vw5.heap.size, 0, none⟩ : Addr).add 12).add 2) (Value.int .i64) fun (x102 : Int) =>
        LdS vS99 (((⟨vw5.heap.size, 0, none⟩ : Addr).add 12).add 3) (Value.int .i64) fun (x103 : Int) =>
        LdS vS99 (((⟨vw5.heap.size, 0, none⟩ : Addr).add 12).add 4) (Value.int .i64) fun (x104 : Int) =>
        LdS vS99 ((⟨vw5.heap.size, 0, none⟩ : Addr).add 17) (Value.int .i64) fun (x105 : Int) =>
        LdS vS99 (((⟨vw5.heap.size, 0, none⟩ : Addr).add 17).add 1) (Value.int .i64) fun (x106 : Int) =>
        LdS vS99 (((⟨vw5.heap.size, 0, none⟩ : Addr).add 17).add 2) (Value.int .i64) fun (x107 : Int) =>
        LdS vS99 (((⟨vw5.heap.size, 0, none⟩ : Addr).add 17).add 3) (Value.int .i64) fun (x108 : Int) =>
        LdS vS99 (((⟨vw5.heap.size, 0, none⟩ : Addr).add 17).add 4) (Value.int .i64) fun (x109 : Int) =>
        (vS99 vw78.drew ∧ (St vw78.drew (⟨vw6.heap.size, 0, none⟩ : Addr) (Slc.v ((⟨none, 0, 0⟩ : Slc))) fun vw110 =>
            St vw110 ((⟨vw6.heap.size, 0, none⟩ : Addr).add 1) (.bool false) fun vw111 =>
            StT (⟨vw7.heap.size, 0, none⟩ : Addr) 0 LiA75 ((IntKind.i64.wrap (r54 + 8), s77, x100, x101, x102, x103, x104, x105, x106, x107, x108, x109) : TyA75) vw111 fun vw112 =>
            Ld vw112 (⟨vw6.heap.size, 0, none⟩ : Addr) Slc.v fun (x113 : Slc) =>
            Ld vw112 ((⟨vw6.heap.size, 0, none⟩ : Addr).add 1) Value.bool fun (x114 : Bool) =>
            LdT vw112 (⟨vw7.heap.size, 0, none⟩ : Addr) 0 LiA75 fun (x115 : TyA75) =>
            R (x113, x114) x115 true 0 vw112) ∧
          (St vw78.drew (⟨vw6.heap.size, 0, none⟩ : Addr) (Slc.v ((⟨none, 0, 0⟩ : Slc))) fun vw116 =>
            St vw116 ((⟨vw6.heap.size, 0, none⟩ : Addr).add 1) (.bool false) fun vw117 =>
            vS99 vw117 ∧ StT (⟨vw7.heap.size, 0, none⟩ : Addr) 0 LiA75 ((IntKind.i64.wrap (r54 + 8), s77, x100, x101, x102, x103, x104, x105, x106, x107, x108, x109) : TyA75) vw117 fun vw118 =>
            Ld vw118 (⟨vw6.heap.size, 0, none⟩ : Addr) Slc.v fun (x119 : Slc) =>
            Ld vw118 ((⟨vw6.heap.size, 0, none⟩ : Addr).add 1) Value.bool fun (x120 : Bool) =>
            LdT vw118 (⟨vw7.heap.size, 0, none⟩ : Addr) 0 LiA75 fun (x121 : TyA75) =>
            R (x119, x120) x121 true 0 vw118)) ∧
        (St vw78.drew (⟨vw6.heap.size, 0, none⟩ : Addr) (Slc.v ((⟨none, 0, 0⟩ : Slc))) fun vw122 =>
          St vw122 ((⟨vw6.heap.size, 0, none⟩ : Addr).add 1) (.bool false) fun vw123 =>
          StT (⟨vw7.heap.size, 0, none⟩ : Addr) 0 LiA75 ((IntKind.i64.wrap (r54 + 8), s77, x100, x101, x102, x103, x104, x105, x106, x107, x108, x109) : TyA75) vw123 fun vw124 =>
          Ld vw124 (⟨vw6.heap.size, 0, none⟩ : Addr) Slc.v fun (x125 : Slc) =>
          Ld vw124 ((⟨vw6.heap.size, 0, none⟩ : Addr).add 1) Value.bool fun (x126 : Bool) =>
          LdT vw124 (⟨vw7.heap.size, 0, none⟩ : Addr) 0 LiA75 fun (x127 : TyA75) =>
          R (x125, x126) x127 true 0 vw124)))) (Br (((s77.len : Nat) : Int) == 0) (St vw78 (⟨vw6.heap.size, 0, none⟩ : Addr) (Slc.v ((⟨none, 0, 0⟩ : Slc))) fun vw128 =>
      St vw128 ((⟨vw6.heap.size, 0, none⟩ : Addr).add 1) (.bool false) fun vw129 =>
      StT (⟨vw7.heap.size, 0, none⟩ : Addr) 0 LiA75 ((0, (⟨none, 0, 0⟩ : Slc), 0, 0, 0, 0, 0, 0, 0, 0, 0, 0) : TyA75) vw129 fun vw130 =>
      Ld vw130 (⟨vw6.heap.size, 0, none⟩ : Addr) Slc.v fun (x131 : Slc) =>
      Ld vw130 ((⟨vw6.heap.size, 0, none⟩ : Addr).add 1) Value.bool fun (x132 : Bool) =>
      LdT vw130 (⟨vw7.heap.size, 0, none⟩ : Addr) 0 LiA75 fun (x133 : TyA75) =>
      R (x131, x132) x133 false 0 vw130) (Br (r54 == 0) (St vw78 (⟨vw6.heap.size, 0, none⟩ : Addr) (Slc.v ((⟨none, 0, 0⟩ : Slc))) fun vw134 =>
        St vw134 ((⟨vw6.heap.size, 0, none⟩ : Addr).add 1) (.bool false) fun vw135 =>
        StT (⟨vw7.heap.size, 0, none⟩ : Addr) 0 LiA75 ((0, (⟨none, 0, 0⟩ : Slc), 0, 0, 0, 0, 0, 0, 0, 0, 0, 0) : TyA75) vw135 fun vw136 =>
        Ld vw136 (⟨vw6.heap.size, 0, none⟩ : Addr) Slc.v fun (x137 : Slc) =>
        Ld vw136 ((⟨vw6.heap.size, 0, none⟩ : Addr).add 1) Value.bool fun (x138 : Bool) =>
        LdT vw136 (⟨vw7.heap.size, 0, none⟩ : Addr) 0 LiA75 fun (x139 : TyA75) =>
        R (x137, x138) x139 false 0 vw136) (∃ vS140 : World → Prop, vS140 vw78.drew ∧ LdS vS140 ((⟨vw5.heap.size, 0, none⟩ : Addr).add 12) (Value.int .i64) fun (x141 : Int) =>
        LdS vS140 (((⟨vw5.heap.size, 0, none⟩ : Addr).add 12).add 1) (Value.int .i64) fun (x142 : Int) =>
        LdS vS140 (((⟨vw5.heap.size, 0, none⟩ : Addr).add 12).add 2) (Value.int .i64) fun (x143 : Int) =>
        LdS vS140 (((⟨vw5.heap.size, 0, none⟩ : Addr).add 12).add 3) (Value.int .i64) fun (x144 : Int) =>
        LdS vS140 (((⟨vw5.heap.size, 0, none⟩ : Addr).add 12).add 4) (Value.int .i64) fun (x145 : Int) =>
        LdS vS140 ((⟨vw5.heap.size, 0, none⟩ : Addr).add 17) (Value.int .i64) fun (x146 : Int) =>
        LdS vS140 (((⟨vw5.heap.size, 0, none⟩ : Addr).add 17).add 1) (Value.int .i64) fun (x147 : Int) =>
        LdS vS140 (((⟨vw5.heap.size, 0, none⟩ : Addr).add 17).add 2) (Value.int .i64) fun (x148 : Int) =>
        LdS vS140 (((⟨vw5.heap.size, 0, none⟩ : Addr).add 17).add 3) (Value.int .i64) fun (x149 : Int) =>
        LdS vS140 (((⟨vw5.heap.size, 0, none⟩ : Addr).add 17).add 4) (Value.int .i64) fun (x150 : Int) =>
        (vS140 vw78.drew ∧ (St vw78.drew (⟨vw6.heap.size, 0, none⟩ : Addr) (Slc.v ((⟨none, 0, 0⟩ : Slc))) fun vw151 =>
            St vw151 ((⟨vw6.heap.size, 0, none⟩ : Addr).add 1) (.bool false) fun vw152 =>
            StT (⟨vw7.heap.size, 0, none⟩ : Addr) 0 LiA75 ((r54, s77, x141, x142, x143, x144, x145, x146, x147, x148, x149, x150) : TyA75) vw152 fun vw153 =>
            Ld vw153 (⟨vw6.heap.size, 0, none⟩ : Addr) Slc.v fun (x154 : Slc) =>
            Ld vw153 ((⟨vw6.heap.size, 0, none⟩ : Addr).add 1) Value.bool fun (x155 : Bool) =>
            LdT vw153 (⟨vw7.heap.size, 0, none⟩ : Addr) 0 LiA75 fun (x156 : TyA75) =>
            R (x154, x155) x156 true 0 vw153) ∧
          (St vw78.drew (⟨vw6.heap.size, 0, none⟩ : Addr) (Slc.v ((⟨none, 0, 0⟩ : Slc))) fun vw157 =>
            St vw157 ((⟨vw6.heap.size, 0, none⟩ : Addr).add 1) (.bool false) fun vw158 =>
            vS140 vw158 ∧ StT (⟨vw7.heap.size, 0, none⟩ : Addr) 0 LiA75 ((r54, s77, x141, x142, x143, x144, x145, x146, x147, x148, x149, x150) : TyA75) vw158 fun vw159 =>
            Ld vw159 (⟨vw6.heap.size, 0, none⟩ : Addr) Slc.v fun (x160 : Slc) =>
            Ld vw159 ((⟨vw6.heap.size, 0, none⟩ : Addr).add 1) Value.bool fun (x161 : Bool) =>
            LdT vw159 (⟨vw7.heap.size, 0, none⟩ : Addr) 0 LiA75 fun (x162 : TyA75) =>
            R (x160, x161) x162 true 0 vw159)) ∧
        (St vw78.drew (⟨vw6.heap.size, 0, none⟩ : Addr) (Slc.v ((⟨none, 0, 0⟩ : Slc))) fun vw163 =>
          St vw163 ((⟨vw6.heap.size, 0, none⟩ : Addr).add 1) (.bool false) fun vw164 =>
          StT (⟨vw7.heap.size, 0, none⟩ : Addr) 0 LiA75 ((r54, s77, x141, x142, x143, x144, x145, x146, x147, x148, x149, x150) : TyA75) vw164 fun vw165 =>
          Ld vw165 (⟨vw6.heap.size, 0, none⟩ : Addr) Slc.v fun (x166 : Slc) =>
          Ld vw165 ((⟨vw6.heap.size, 0, none⟩ : Addr).add 1) Value.bool fun (x167 : Bool) =>
          LdT vw165 (⟨vw7.heap.size, 0, none⟩ : Addr) 0 LiA75 fun (x168 : TyA75) =>
          R (x166, x167) x168 true 0 vw165))))
/-- foliant/foliantref45.Paint -/
def S36 (x1 : Slc × Bool) (o2 : ByteArray × Slc × ByteArray) (g3 : TyA29) (w : World) (R : (Slc × Bool) → (TyA75) → Bool → Int → World → Prop) : Prop :=
  Nw w (.cells #[Slc.v x1.1, .bool x1.2] 86) fun vw4 =>
  Nw vw4 (.cells #[.string o2.1, Slc.v o2.2.1, .string o2.2.2] 63) fun vw5 =>
  Nw vw5 (.cells (Sig.cells LiA29 g3).toArray 30) fun vw6 =>
  Nw vw6 (.cells #[Slc.v ((⟨none, 0, 0⟩ : Slc)), .bool false] 86) fun vw7 =>
  Nw vw7 (.cells #[.int .i64 0, Slc.v ((⟨none, 0, 0⟩ : Slc)), .int .i64 0, .int .i64 0, .int .i64 0, .int .i64 0, .int .i64 0, .int .i64 0, .int .i64 0, .int .i64 0, .int .i64 0, .int .i64 0] 76) fun vw8 =>
  Ld vw8 (⟨vw4.heap.size, 0, none⟩ : Addr) Value.string fun (x17 : ByteArray) =>
  C35 x17 vw8 fun r18 vw19 =>
    Br (!r18) (Ld vw19 (⟨w.heap.size, 0, none⟩ : Addr) Slc.v fun (x20 : Slc) =>
      Ld vw19 ((⟨w.heap.size, 0, none⟩ : Addr).add 1) Value.bool fun (x21 : Bool) =>
      St vw19 (⟨vw6.heap.size, 0, none⟩ : Addr) (Slc.v x20) fun vw22 =>
      St vw22 ((⟨vw6.heap.size, 0, none⟩ : Addr).add 1) (.bool x21) fun vw23 =>
      StT (⟨vw7.heap.size, 0, none⟩ : Addr) 0 LiA75 ((0, (⟨none, 0, 0⟩ : Slc), 0, 0, 0, 0, 0, 0, 0, 0, 0, 0) : TyA75) vw23 fun vw24 =>
      Ld vw24 (⟨vw6.heap.size, 0, none⟩ : Addr) Slc.v fun (x25 : Slc) =>
      Ld vw24 ((⟨vw6.heap.size, 0, none⟩ : Addr).add 1) Value.bool fun (x26 : Bool) =>
      LdT vw24 (⟨vw7.heap.size, 0, none⟩ : Addr) 0 LiA75 fun (x27 : TyA75) =>
      R (x25, x26) x27 false 8 vw24) (Ld vw19 (⟨vw4.heap.size, 0, none⟩ : Addr) Value.string fun (x38 : ByteArray) =>
      Ld vw19 ((⟨vw4.heap.size, 0, none⟩ : Addr).add 1) Slc.v fun (x39 : Slc) =>
      Ld vw19 ((⟨vw4.heap.size, 0, none⟩ : Addr).add 2) Value.string fun (x40 : ByteArray) =>
      C43 (x38, x39, x40) vw19 fun r41 vw42 =>
        Br (r41 != 0) (Ld vw42 (⟨w.heap.size, 0, none⟩ : Addr) Slc.v fun (x43 : Slc) =>
          Ld vw42 ((⟨w.heap.size, 0, none⟩ : Addr).add 1) Value.bool fun (x44 : Bool) =>
          St vw42 (⟨vw6.heap.size, 0, none⟩ : Addr) (Slc.v x43) fun vw45 =>
          St vw45 ((⟨vw6.heap.size, 0, none⟩ : Addr).add 1) (.bool x44) fun vw46 =>
          StT (⟨vw7.heap.size, 0, none⟩ : Addr) 0 LiA75 ((0, (⟨none, 0, 0⟩ : Slc), 0, 0, 0, 0, 0, 0, 0, 0, 0, 0) : TyA75) vw46 fun vw47 =>
          Ld vw47 (⟨vw6.heap.size, 0, none⟩ : Addr) Slc.v fun (x48 : Slc) =>
          Ld vw47 ((⟨vw6.heap.size, 0, none⟩ : Addr).add 1) Value.bool fun (x49 : Bool) =>
          LdT vw47 (⟨vw7.heap.size, 0, none⟩ : Addr) 0 LiA75 fun (x50 : TyA75) =>
          R (x48, x49) x50 false r41 vw47) (∃ vS51 : World → Prop, vS51 vw42.drew ∧ LdS vS51 (⟨w.heap.size, 0, none⟩ : Addr) Slc.v fun (x52 : Slc) =>
          LdS vS51 (⟨vw4.heap.size, 0, none⟩ : Addr) Value.string fun (x53 : ByteArray) =>
          C97 x53 vw42.drew fun r54 vw55 =>
            vS51 vw55 ∧ Join (S36J1 w vw5 vw6 vw7 r54 R) fun (vJ169 : Slc → World → Prop) =>
              Br (decide (((x52.len : Nat) : Int) > 0)) (Ld vw55 (⟨vw4.heap.size, 0, none⟩ : Addr) Value.string fun (x170 : ByteArray) =>
                Br (x170.toList == (⟨#[115]⟩ : ByteArray).toList) (Nw vw55 (.cells #[] 67) fun vw171 =>
                  Rn Tryd.prog (Builtin.append_ #[64, 64] 64 #[Slc.v ((⟨some ⟨vw55.heap.size, 0, none⟩, 0, 0⟩ : Slc)), Slc.v x52]) vw171 Slc.v fun (x172 : Slc) vw173 =>
                  Nw vw173 (.cells #[.int .i64 4, .int .i64 0, .int .i64 0, .int .i64 0, .int .i64 0, .int .i64 0, .int .i64 0] 67) fun vw174 =>
                  Rn Tryd.prog (Builtin.append_ #[64, 64] 64 #[Slc.v x172, Slc.v ((⟨some ⟨vw173.heap.size, 0, none⟩, 1, 1⟩ : Slc))]) vw174 Slc.v fun (x175 : Slc) vw176 =>
                  vJ169 x175 vw176) (Ld vw55 (⟨vw4.heap.size, 0, none⟩ : Addr) Value.string fun (x177 : ByteArray) =>
                  Br (x177.toList == (⟨#[98]⟩ : ByteArray).toList) (Nw vw55 (.cells #[] 67) fun vw178 =>
                    Rn Tryd.prog (Builtin.append_ #[64, 64] 64 #[Slc.v ((⟨some ⟨vw55.heap.size, 0, none⟩, 0, 0⟩ : Slc)), Slc.v x52]) vw178 Slc.v fun (x179 : Slc) vw180 =>
                    Nw vw180 (.cells #[.int .i64 4, .int .i64 0, .int .i64 0, .int .i64 0, .int .i64 0, .int .i64 0, .int .i64 0] 67) fun vw181 =>
                    Rn Tryd.prog (Builtin.append_ #[64, 64] 64 #[Slc.v x179, Slc.v ((⟨some ⟨vw180.heap.size, 0, none⟩, 1, 1⟩ : Slc))]) vw181 Slc.v fun (x182 : Slc) vw183 =>
                    vJ169 x182 vw183) (Ld vw55 (⟨vw4.heap.size, 0, none⟩ : Addr) Value.string fun (x184 : ByteArray) =>
                    Br (x184.toList == (⟨#[98, 42]⟩ : ByteArray).toList) (Nw vw55 (.cells #[] 67) fun vw185 =>
                      Rn Tryd.prog (Builtin.append_ #[64, 64] 64 #[Slc.v ((⟨some ⟨vw55.heap.size, 0, none⟩, 0, 0⟩ : Slc)), Slc.v x52]) vw185 Slc.v fun (x186 : Slc) vw187 =>
                      Nw vw187 (.cells #[.int .i64 4, .int .i64 0, .int .i64 0, .int .i64 0, .int .i64 0, .int .i64 0, .int .i64 0] 67) fun vw188 =>
                      Rn Tryd.prog (Builtin.append_ #[64, 64] 64 #[Slc.v x186, Slc.v ((⟨some ⟨vw187.heap.size, 0, none⟩, 1, 1⟩ : Slc))]) vw188 Slc.v fun (x189 : Slc) vw190 =>
                      vJ169 x189 vw190) (vJ169 x52 vw55)))) (vJ169 x52 vw55)))
def pl36 : Plan := (.seq (.reg .seq) (.seq (.seq (.reg .seq) (.cond (.seq (.reg .seq) .leaf) .leaf)) (.seq (.seq (.reg .seq) (.seq (.reg .seq) (.cond (.seq (.reg .seq) .leaf) .leaf))) (.seq (.reg (.held [] (.take 0 (.take 1 (.take 2 (.take 3 (.eff 4 none (.take 5 (.take 6 .done))))))))) (.join [(11, (.one .slc))] [3, 5, 6, 7, 12] (.seq (.reg .seq) (.cond (.reg .seq) .leaf)) (.seq (.seq (.reg .seq) (.cond (.reg .seq) .leaf)) (.seq (.seq (.reg .seq) (.cond (.seq (.reg .seq) .leaf) .leaf)) (.seq (.reg (.held [7] (.take 1 (.take 2 (.take 3 (.take 4 (.take 5 (.take 6 (.effs 0 none (.effs 7 (some [8]) (.eff 8 (some [9]) (.eff 9 (some []) (.take 10 (.take 11 .done)))) (.eff 8 none (.eff 7 (some [9]) (.eff 9 (some []) (.take 10 (.take 11 .done)))))) (.eff 7 (some [0]) (.eff 0 (some [8]) (.eff 8 (some [9]) (.eff 9 (some []) (.take 10 (.take 11 .done))))))))))))))) .leaf))))))))
set_option maxRecDepth 100000 in
theorem T36 (x1 : Slc × Bool) (o2 : ByteArray × Slc × ByteArray) (g3 : TyA29) (w : World) (R : (Slc × Bool) → (TyA75) → Bool → Int → World → Prop) (h : S36 x1 o2 g3 w R) : C36 (x1.1, x1.2) (o2.1, o2.2.1, o2.2.2) g3 w R := by
  have e : fnT Tryd.prog ⟨FF, MAY, (fun _ _ => False)⟩ pl36 Tryd.f36 [.agg #[Slc.v x1.1, .bool x1.2], .agg #[.string o2.1, Slc.v o2.2.1, .string o2.2.2], .agg (Sig.cells LiA29 g3).toArray] w [(.agg [.slc, .bool]), (.agg [(.int .i64), .slc, (.int .i64), (.int .i64), (.int .i64), (.int .i64), (.int .i64), (.int .i64), (.int .i64), (.int .i64), (.int .i64), (.int .i64)]), (.one .bool), (.one (.int .i64))] (fun s w => R s.1 s.2.1 s.2.2.1 s.2.2.2 w) = S36 x1 o2 g3 w R := by kernel_rfl
  exact (fn_calls okF okM Tryd.func36 (by kernel_rfl) (by kernel_rfl) (e.mpr h)).mono fun _ _ ⟨s, he, hR⟩ => ⟨s.1, s.2.1, s.2.2.1, s.2.2.2, he, hR⟩

def S40L1 (a1 : Slc) (b2 : Slc) (R : Bool → World → Prop) (I5 : Int → World → Prop) (s3 : Int) (vw4 : World) : Prop :=
  Br (decide (s3 < ((a1.len : Nat) : Int))) (0 ≤ s3 ∧ s3 < (a1.len : Nat) ∧ Nn a1.p fun a6 =>
    Ld vw4.drew (a6.add ((s3).toNat * 7)) (Value.int .i64) fun (x7 : Int) =>
    Ld vw4.drew ((a6.add ((s3).toNat * 7)).add 1) (Value.int .i64) fun (x8 : Int) =>
    Ld vw4.drew ((a6.add ((s3).toNat * 7)).add 2) (Value.int .i64) fun (x9 : Int) =>
    Ld vw4.drew ((a6.add ((s3).toNat * 7)).add 3) (Value.int .i64) fun (x10 : Int) =>
    Ld vw4.drew ((a6.add ((s3).toNat * 7)).add 4) (Value.int .i64) fun (x11 : Int) =>
    Ld vw4.drew ((a6.add ((s3).toNat * 7)).add 5) (Value.int .i64) fun (x12 : Int) =>
    Ld vw4.drew ((a6.add ((s3).toNat * 7)).add 6) (Value.int .i64) fun (x13 : Int) =>
    0 ≤ s3 ∧ s3 < (b2.len : Nat) ∧ Nn b2.p fun a14 =>
    Ld vw4.drew (a14.add ((s3).toNat * 7)) (Value.int .i64) fun (x15 : Int) =>
    Ld vw4.drew ((a14.add ((s3).toNat * 7)).add 1) (Value.int .i64) fun (x16 : Int) =>
    Ld vw4.drew ((a14.add ((s3).toNat * 7)).add 2) (Value.int .i64) fun (x17 : Int) =>
    Ld vw4.drew ((a14.add ((s3).toNat * 7)).add 3) (Value.int .i64) fun (x18 : Int) =>
    Ld vw4.drew ((a14.add ((s3).toNat * 7)).add 4) (Value.int .i64) fun (x19 : Int) =>
    Ld vw4.drew ((a14.add ((s3).toNat * 7)).add 5) (Value.int .i64) fun (x20 : Int) =>
    Ld vw4.drew ((a14.add ((s3).toNat * 7)).add 6) (Value.int .i64) fun (x21 : Int) =>
    Lt (!((x7 == x15) && (((x8 == x16) && ((x9 == x17) && true)) && (((x10 == x18) && ((x11 == x19) && true)) && (((x12 == x20) && ((x13 == x21) && true)) && true))))) fun (x22 : Bool) =>
    Br x22 (R false vw4.drew) (I5 (IntKind.i64.wrap (s3 + 1)) vw4.drew)) (R true vw4)
/-- foliant/foliantref45.Same -/
def S40 (a1 : Slc) (b2 : Slc) (w : World) (R : Bool → World → Prop) : Prop :=
  Br (((a1.len : Nat) : Int) != ((b2.len : Nat) : Int)) (R false w) (Lp (σ := Int) (S40L1 a1 b2 R) 0 w)
def pl40 : Plan := (.seq (.reg .seq) (.seq (.seq (.reg .seq) (.cond (.seq (.reg .seq) .leaf) .leaf)) (.seq (.seq (.reg .seq) (.block (.loop [(13, (.one (.int .i64)))] [0, 1, 12] (.seq (.reg .seq) (.seq (.cond .leaf .leaf) (.seq (.block (.seq (.reg .seq) (.seq (.reg .still) (.cond (.seq (.reg .seq) .leaf) .leaf)))) (.reg .seq))))))) (.seq (.reg .seq) .leaf))))
set_option maxRecDepth 100000 in
theorem T40 (a1 : Slc) (b2 : Slc) (w : World) (R : Bool → World → Prop) (h : S40 a1 b2 w R) : C40 a1 b2 w R := by
  have e : fnT Tryd.prog ⟨FF, MAY, (fun _ _ => False)⟩ pl40 Tryd.f40 [Slc.v a1, Slc.v b2] w [(.one .bool)] (fun s w => R s w) = S40 a1 b2 w R := by kernel_rfl
  exact (fn_calls okF okM Tryd.func40 (by kernel_rfl) (by kernel_rfl) (e.mpr h)).mono fun _ _ ⟨s, he, hR⟩ => ⟨s, he, hR⟩

/-- foliant/foliantref45.SamePaint -/
def S37 (a1 : TyA75) (b2 : TyA75) (w : World) (R : Bool → World → Prop) : Prop :=
  Nw w (.cells (Sig.cells LiA75 a1).toArray 76) fun vw3 =>
  Nw vw3 (.cells (Sig.cells LiA75 b2).toArray 76) fun vw4 =>
  Ld vw4 (⟨w.heap.size, 0, none⟩ : Addr) (Value.int .i64) fun (x5 : Int) =>
  Ld vw4 (⟨vw3.heap.size, 0, none⟩ : Addr) (Value.int .i64) fun (x6 : Int) =>
  Br (x5 == x6) (Ld vw4 ((⟨w.heap.size, 0, none⟩ : Addr).add 1) Slc.v fun (x7 : Slc) =>
    Ld vw4 ((⟨vw3.heap.size, 0, none⟩ : Addr).add 1) Slc.v fun (x8 : Slc) =>
    C40 x7 x8 vw4 fun r9 vw10 =>
      Br r9 (Ld vw10 ((⟨w.heap.size, 0, none⟩ : Addr).add 2) (Value.int .i64) fun (x11 : Int) =>
        Ld vw10 (((⟨w.heap.size, 0, none⟩ : Addr).add 2).add 1) (Value.int .i64) fun (x12 : Int) =>
        Ld vw10 (((⟨w.heap.size, 0, none⟩ : Addr).add 2).add 2) (Value.int .i64) fun (x13 : Int) =>
        Ld vw10 (((⟨w.heap.size, 0, none⟩ : Addr).add 2).add 3) (Value.int .i64) fun (x14 : Int) =>
        Ld vw10 (((⟨w.heap.size, 0, none⟩ : Addr).add 2).add 4) (Value.int .i64) fun (x15 : Int) =>
        Ld vw10 ((⟨vw3.heap.size, 0, none⟩ : Addr).add 2) (Value.int .i64) fun (x16 : Int) =>
        Ld vw10 (((⟨vw3.heap.size, 0, none⟩ : Addr).add 2).add 1) (Value.int .i64) fun (x17 : Int) =>
        Ld vw10 (((⟨vw3.heap.size, 0, none⟩ : Addr).add 2).add 2) (Value.int .i64) fun (x18 : Int) =>
        Ld vw10 (((⟨vw3.heap.size, 0, none⟩ : Addr).add 2).add 3) (Value.int .i64) fun (x19 : Int) =>
        Ld vw10 (((⟨vw3.heap.size, 0, none⟩ : Addr).add 2).add 4) (Value.int .i64) fun (x20 : Int) =>
        Lt (((x11 == x16) && ((x12 == x17) && ((x13 == x18) && ((x14 == x19) && ((x15 == x20) && true)))))) fun (x21 : Bool) =>
        Br x21 (Ld vw10 ((⟨w.heap.size, 0, none⟩ : Addr).add 7) (Value.int .i64) fun (x22 : Int) =>
          Ld vw10 (((⟨w.heap.size, 0, none⟩ : Addr).add 7).add 1) (Value.int .i64) fun (x23 : Int) =>
          Ld vw10 (((⟨w.heap.size, 0, none⟩ : Addr).add 7).add 2) (Value.int .i64) fun (x24 : Int) =>
          Ld vw10 (((⟨w.heap.size, 0, none⟩ : Addr).add 7).add 3) (Value.int .i64) fun (x25 : Int) =>
          Ld vw10 (((⟨w.heap.size, 0, none⟩ : Addr).add 7).add 4) (Value.int .i64) fun (x26 : Int) =>
          Ld vw10 ((⟨vw3.heap.size, 0, none⟩ : Addr).add 7) (Value.int .i64) fun (x27 : Int) =>
          Ld vw10 (((⟨vw3.heap.size, 0, none⟩ : Addr).add 7).add 1) (Value.int .i64) fun (x28 : Int) =>
          Ld vw10 (((⟨vw3.heap.size, 0, none⟩ : Addr).add 7).add 2) (Value.int .i64) fun (x29 : Int) =>
          Ld vw10 (((⟨vw3.heap.size, 0, none⟩ : Addr).add 7).add 3) (Value.int .i64) fun (x30 : Int) =>
          Ld vw10 (((⟨vw3.heap.size, 0, none⟩ : Addr).add 7).add 4) (Value.int .i64) fun (x31 : Int) =>
          Lt (((x22 == x27) && ((x23 == x28) && ((x24 == x29) && ((x25 == x30) && ((x26 == x31) && true)))))) fun (x32 : Bool) =>
          R x32 vw10) (R false vw10)) (R false vw10)) (R false vw4)
def pl37 : Plan := (.seq (.reg .seq) (.seq (.reg .seq) .leaf))
set_option maxRecDepth 100000 in
theorem T37 (a1 : TyA75) (b2 : TyA75) (w : World) (R : Bool → World → Prop) (h : S37 a1 b2 w R) : C37 a1 b2 w R := by
  have e : fnT Tryd.prog ⟨FF, MAY, (fun _ _ => False)⟩ pl37 Tryd.f37 [.agg (Sig.cells LiA75 a1).toArray, .agg (Sig.cells LiA75 b2).toArray] w [(.one .bool)] (fun s w => R s w) = S37 a1 b2 w R := by kernel_rfl
  exact (fn_calls okF okM Tryd.func37 (by kernel_rfl) (by kernel_rfl) (e.mpr h)).mono fun _ _ ⟨s, he, hR⟩ => ⟨s, he, hR⟩

/-- foliant/foliantref45.builds -/
def S98 (name1 : ByteArray) (w : World) (R : Bool → World → Prop) : Prop :=
  Br (name1.toList == (⟨#[109]⟩ : ByteArray).toList) (Br (name1.toList == (⟨#[109]⟩ : ByteArray).toList) (R true w) (R false w)) (Br (name1.toList == (⟨#[108]⟩ : ByteArray).toList) (Br (name1.toList == (⟨#[108]⟩ : ByteArray).toList) (R true w) (R false w)) (Br (name1.toList == (⟨#[99]⟩ : ByteArray).toList) (Br (name1.toList == (⟨#[99]⟩ : ByteArray).toList) (R true w) (R false w)) (Br (name1.toList == (⟨#[118]⟩ : ByteArray).toList) (Br (name1.toList == (⟨#[118]⟩ : ByteArray).toList) (R true w) (R false w)) (Br (name1.toList == (⟨#[121]⟩ : ByteArray).toList) (Br (name1.toList == (⟨#[121]⟩ : ByteArray).toList) (R true w) (R false w)) (Br (name1.toList == (⟨#[104]⟩ : ByteArray).toList) (Br (name1.toList == (⟨#[104]⟩ : ByteArray).toList) (R true w) (R false w)) (Br (name1.toList == (⟨#[114, 101]⟩ : ByteArray).toList) (Br (name1.toList == (⟨#[114, 101]⟩ : ByteArray).toList) (R true w) (R false w)) (Br (name1.toList == (⟨#[87]⟩ : ByteArray).toList) (Br (name1.toList == (⟨#[87]⟩ : ByteArray).toList) (R true w) (R false w)) (Br (name1.toList == (⟨#[87, 42]⟩ : ByteArray).toList) (R true w) (R false w)))))))))
def pl98 : Plan := (.seq (.reg .seq) (.seq (.seq (.reg .seq) (.block (.seq (.seq (.reg .seq) (.cond .leaf (.seq (.reg .seq) (.cond .leaf (.seq (.reg .seq) (.cond .leaf (.seq (.reg .seq) (.cond .leaf (.seq (.reg .seq) (.cond .leaf (.seq (.reg .seq) (.cond .leaf (.seq (.reg .seq) (.cond .leaf (.seq (.reg .seq) (.cond .leaf (.reg .seq))))))))))))))))) (.cond (.seq (.reg .seq) .leaf) .leaf)))) (.seq (.reg .seq) .leaf)))
set_option maxRecDepth 100000 in
theorem T98 (name1 : ByteArray) (w : World) (R : Bool → World → Prop) (h : S98 name1 w R) : C98 name1 w R := by
  have e : fnT Tryd.prog ⟨FF, MAY, (fun _ _ => False)⟩ pl98 Tryd.f98 [.string name1] w [(.one .bool)] (fun s w => R s w) = S98 name1 w R := by kernel_rfl
  exact (fn_calls okF okM Tryd.func98 (by kernel_rfl) (by kernel_rfl) (e.mpr h)).mono fun _ _ ⟨s, he, hR⟩ => ⟨s, he, hR⟩

def S99L1 (w : World) (R : Slc → Int → World → Prop) (I5 : (Slc × Int) → World → Prop) (s3 : Slc × Int) (vw4 : World) : Prop :=
  Ld vw4 ((⟨w.heap.size, 0, none⟩ : Addr).add 1) Slc.v fun (x7 : Slc) =>
  Br (decide (s3.2 < ((x7.len : Nat) : Int))) (Ld vw4 ((⟨w.heap.size, 0, none⟩ : Addr).add 1) Slc.v fun (x18 : Slc) =>
    0 ≤ s3.2 ∧ s3.2 < (x18.len : Nat) ∧ Nn x18.p fun a19 =>
    Ld vw4 (a19.add ((s3.2).toNat * 6)) (Value.int .i64) fun (x20 : Int) =>
    Ld vw4 ((a19.add ((s3.2).toNat * 6)).add 1) (Value.int .i64) fun (x21 : Int) =>
    Ld vw4 ((a19.add ((s3.2).toNat * 6)).add 2) (Value.int .i64) fun (x22 : Int) =>
    Ld vw4 ((a19.add ((s3.2).toNat * 6)).add 3) Value.string fun (x23 : ByteArray) =>
    Ld vw4 ((a19.add ((s3.2).toNat * 6)).add 4) Slc.v fun (x24 : Slc) =>
    Ld vw4 ((a19.add ((s3.2).toNat * 6)).add 5) Slc.v fun (x25 : Slc) =>
    C105 (x20, x21, x22, x23, x24, x25) 110 vw4 fun r26 vw27 =>
      Br (!r26) (R (⟨none, 0, 0⟩ : Slc) 10 vw27) (Ld vw27 ((⟨w.heap.size, 0, none⟩ : Addr).add 1) Slc.v fun (x28 : Slc) =>
        0 ≤ s3.2 ∧ s3.2 < (x28.len : Nat) ∧ Nn x28.p fun a29 =>
        Ld vw27 (a29.add ((s3.2).toNat * 6)) (Value.int .i64) fun (x30 : Int) =>
        Ld vw27 ((a29.add ((s3.2).toNat * 6)).add 1) (Value.int .i64) fun (x31 : Int) =>
        Ld vw27 ((a29.add ((s3.2).toNat * 6)).add 2) (Value.int .i64) fun (x32 : Int) =>
        Ld vw27 ((a29.add ((s3.2).toNat * 6)).add 3) Value.string fun (x33 : ByteArray) =>
        Ld vw27 ((a29.add ((s3.2).toNat * 6)).add 4) Slc.v fun (x34 : Slc) =>
        Ld vw27 ((a29.add ((s3.2).toNat * 6)).add 5) Slc.v fun (x35 : Slc) =>
        C157 (x30, x31, x32, x33, x34, x35) vw27 fun r36 r37 vw38 =>
          Br (!r37) (R (⟨none, 0, 0⟩ : Slc) 2 vw38) (Nw vw38 (.cells #[.int .i64 r36] 2) fun vw39 =>
            Rn Tryd.prog (Builtin.append_ #[24, 24] 24 #[Slc.v s3.1, Slc.v ((⟨some ⟨vw38.heap.size, 0, none⟩, 1, 1⟩ : Slc))]) vw39 Slc.v fun (x40 : Slc) vw41 =>
            I5 (x40, IntKind.i64.wrap (s3.2 + 1)) vw41))) (R s3.1 0 vw4)
/-- foliant/foliantref43.Nums -/
def S99 (o1 : ByteArray × Slc × ByteArray) (w : World) (R : Slc → Int → World → Prop) : Prop :=
  Nw w (.cells #[.string o1.1, Slc.v o1.2.1, .string o1.2.2] 63) fun vw2 =>
  Lp (σ := Slc × Int) (S99L1 w R) ((⟨none, 0, 0⟩ : Slc), 0) vw2
def pl99 : Plan := (.seq (.reg .seq) (.seq (.reg .seq) (.seq (.seq (.reg .seq) (.block (.loop [(4, (.one .slc)), (5, (.one (.int .i64)))] [1] (.seq (.seq (.reg .seq) (.cond .leaf .leaf)) (.seq (.block (.seq (.seq (.reg .seq) (.cond (.seq (.reg .seq) .leaf) .leaf)) (.seq (.reg .seq) (.seq (.seq (.reg .seq) (.cond (.seq (.reg .seq) .leaf) .leaf)) (.reg .seq))))) (.reg .seq)))))) (.seq (.reg .seq) .leaf))))
set_option maxRecDepth 100000 in
theorem T99 (o1 : ByteArray × Slc × ByteArray) (w : World) (R : Slc → Int → World → Prop) (h : S99 o1 w R) : C99 (o1.1, o1.2.1, o1.2.2) w R := by
  have e : fnT Tryd.prog ⟨FF, MAY, (fun _ _ => False)⟩ pl99 Tryd.f99 [.agg #[.string o1.1, Slc.v o1.2.1, .string o1.2.2]] w [(.one .slc), (.one (.int .i64))] (fun s w => R s.1 s.2 w) = S99 o1 w R := by kernel_rfl
  exact (fn_calls okF okM Tryd.func99 (by kernel_rfl) (by kernel_rfl) (e.mpr h)).mono fun _ _ ⟨s, he, hR⟩ => ⟨s.1, s.2, he, hR⟩

def S100L1 (n2 : Slc) (R : Slc → Int → World → Prop) (I16 : (Slc × Int) → World → Prop) (s14 : Slc × Int) (vw15 : World) : Prop :=
  Br (decide ((IntKind.i64.wrap (s14.2 + 1)) < ((n2.len : Nat) : Int))) (∃ vS17 : World → Prop, vS17 vw15.drew ∧ 0 ≤ s14.2 ∧ s14.2 < (n2.len : Nat) ∧ Nn n2.p fun a18 =>
    LdS vS17 (a18.add ((s14.2).toNat * 1)) (Value.int .i64) fun (x19 : Int) =>
    0 ≤ (IntKind.i64.wrap (s14.2 + 1)) ∧ (IntKind.i64.wrap (s14.2 + 1)) < (n2.len : Nat) ∧ Nn n2.p fun a20 =>
    LdS vS17 (a20.add ((IntKind.i64.wrap (s14.2 + 1)).toNat * 1)) (Value.int .i64) fun (x21 : Int) =>
    Nw vw15.drew (.cells #[.int .i64 x19, .int .i64 x21] 43) fun vw22 =>
    Rn Tryd.prog (Builtin.append_ #[164, 164] 164 #[Slc.v s14.1, Slc.v ((⟨some ⟨vw15.drew.heap.size, 0, none⟩, 1, 1⟩ : Slc))]) vw22 Slc.v fun (x23 : Slc) vw24 =>
    I16 (x23, IntKind.i64.wrap (s14.2 + 2)) vw24) (R s14.1 0 vw15)
/-- foliant/foliantref45.pairs -/
def S100 (name1 : ByteArray) (n2 : Slc) (w : World) (R : Slc → Int → World → Prop) : Prop :=
  Br (!(name1.toList == (⟨#[114, 101]⟩ : ByteArray).toList)) (Lp (σ := Slc × Int) (S100L1 n2 R) ((⟨none, 0, 0⟩ : Slc), 0) w) (∃ vS25 : World → Prop, vS25 w.drew ∧ 0 ≤ (0 : Int) ∧ (0 : Int) < (n2.len : Nat) ∧ Nn n2.p fun a26 =>
    LdS vS25 (a26.add (((0 : Int)).toNat * 1)) (Value.int .i64) fun (x27 : Int) =>
    0 ≤ (2 : Int) ∧ (2 : Int) < (n2.len : Nat) ∧ Nn n2.p fun a28 =>
    LdS vS25 (a28.add (((2 : Int)).toNat * 1)) (Value.int .i64) fun (x29 : Int) =>
    Nw w.drew (.cells #[.int .i64 x27, .int .i64 x29] 2) fun vw30 =>
    C158 (⟨some ⟨w.drew.heap.size, 0, none⟩, 2, 2⟩ : Slc) vw30 fun r31 r32 vw33 =>
      Br (r32 != 0) (R (⟨none, 0, 0⟩ : Slc) r32 vw33) (∃ vS34 : World → Prop, vS34 vw33.drew ∧ 0 ≤ (1 : Int) ∧ (1 : Int) < (n2.len : Nat) ∧ Nn n2.p fun a35 =>
        LdS vS34 (a35.add (((1 : Int)).toNat * 1)) (Value.int .i64) fun (x36 : Int) =>
        0 ≤ (3 : Int) ∧ (3 : Int) < (n2.len : Nat) ∧ Nn n2.p fun a37 =>
        LdS vS34 (a37.add (((3 : Int)).toNat * 1)) (Value.int .i64) fun (x38 : Int) =>
        Nw vw33.drew (.cells #[.int .i64 x36, .int .i64 x38] 2) fun vw39 =>
        C158 (⟨some ⟨vw33.drew.heap.size, 0, none⟩, 2, 2⟩ : Slc) vw39 fun r40 r41 vw42 =>
          Br (r41 != 0) (R (⟨none, 0, 0⟩ : Slc) r41 vw42) (∃ vS43 : World → Prop, vS43 vw42.drew ∧ 0 ≤ (0 : Int) ∧ (0 : Int) < (n2.len : Nat) ∧ Nn n2.p fun a44 =>
            LdS vS43 (a44.add (((0 : Int)).toNat * 1)) (Value.int .i64) fun (x45 : Int) =>
            0 ≤ (1 : Int) ∧ (1 : Int) < (n2.len : Nat) ∧ Nn n2.p fun a46 =>
            LdS vS43 (a46.add (((1 : Int)).toNat * 1)) (Value.int .i64) fun (x47 : Int) =>
            0 ≤ (1 : Int) ∧ (1 : Int) < (n2.len : Nat) ∧ Nn n2.p fun a48 =>
            LdS vS43 (a48.add (((1 : Int)).toNat * 1)) (Value.int .i64) fun (x49 : Int) =>
            0 ≤ (0 : Int) ∧ (0 : Int) < (n2.len : Nat) ∧ Nn n2.p fun a50 =>
            LdS vS43 (a50.add (((0 : Int)).toNat * 1)) (Value.int .i64) fun (x51 : Int) =>
            (vS43 vw42.drew ∧ (vS43 vw42.drew ∧ (vS43 vw42.drew ∧ vS43 vw42.drew ∧ Nw vw42.drew (.cells #[.int .i64 x45, .int .i64 x47, .int .i64 r31, .int .i64 x49, .int .i64 r31, .int .i64 r40, .int .i64 x51, .int .i64 r40] 43) fun vw52 =>
                  R (⟨some ⟨vw42.drew.heap.size, 0, none⟩, 4, 4⟩ : Slc) 0 vw52) ∧
                (vS43 vw42.drew ∧ vS43 vw42.drew ∧ Nw vw42.drew (.cells #[.int .i64 x45, .int .i64 x47, .int .i64 r31, .int .i64 x49, .int .i64 r31, .int .i64 r40, .int .i64 x51, .int .i64 r40] 43) fun vw53 =>
                  R (⟨some ⟨vw42.drew.heap.size, 0, none⟩, 4, 4⟩ : Slc) 0 vw53)) ∧
              ((vS43 vw42.drew ∧ (vS43 vw42.drew ∧ vS43 vw42.drew ∧ Nw vw42.drew (.cells #[.int .i64 x45, .int .i64 x47, .int .i64 r31, .int .i64 x49, .int .i64 r31, .int .i64 r40, .int .i64 x51, .int .i64 r40] 43) fun vw54 =>
                    R (⟨some ⟨vw42.drew.heap.size, 0, none⟩, 4, 4⟩ : Slc) 0 vw54) ∧
                  (vS43 vw42.drew ∧ vS43 vw42.drew ∧ Nw vw42.drew (.cells #[.int .i64 x45, .int .i64 x47, .int .i64 r31, .int .i64 x49, .int .i64 r31, .int .i64 r40, .int .i64 x51, .int .i64 r40] 43) fun vw55 =>
                    R (⟨some ⟨vw42.drew.heap.size, 0, none⟩, 4, 4⟩ : Slc) 0 vw55)) ∧
                (vS43 vw42.drew ∧ (vS43 vw42.drew ∧ vS43 vw42.drew ∧ Nw vw42.drew (.cells #[.int .i64 x45, .int .i64 x47, .int .i64 r31, .int .i64 x49, .int .i64 r31, .int .i64 r40, .int .i64 x51, .int .i64 r40] 43) fun vw56 =>
                    R (⟨some ⟨vw42.drew.heap.size, 0, none⟩, 4, 4⟩ : Slc) 0 vw56) ∧
                  (vS43 vw42.drew ∧ vS43 vw42.drew ∧ Nw vw42.drew (.cells #[.int .i64 x45, .int .i64 x47, .int .i64 r31, .int .i64 x49, .int .i64 r31, .int .i64 r40, .int .i64 x51, .int .i64 r40] 43) fun vw57 =>
                    R (⟨some ⟨vw42.drew.heap.size, 0, none⟩, 4, 4⟩ : Slc) 0 vw57)))) ∧
            ((vS43 vw42.drew ∧ (vS43 vw42.drew ∧ (vS43 vw42.drew ∧ vS43 vw42.drew ∧ Nw vw42.drew (.cells #[.int .i64 x45, .int .i64 x47, .int .i64 r31, .int .i64 x49, .int .i64 r31, .int .i64 r40, .int .i64 x51, .int .i64 r40] 43) fun vw58 =>
                    R (⟨some ⟨vw42.drew.heap.size, 0, none⟩, 4, 4⟩ : Slc) 0 vw58) ∧
                  (vS43 vw42.drew ∧ vS43 vw42.drew ∧ Nw vw42.drew (.cells #[.int .i64 x45, .int .i64 x47, .int .i64 r31, .int .i64 x49, .int .i64 r31, .int .i64 r40, .int .i64 x51, .int .i64 r40] 43) fun vw59 =>
                    R (⟨some ⟨vw42.drew.heap.size, 0, none⟩, 4, 4⟩ : Slc) 0 vw59)) ∧
                ((vS43 vw42.drew ∧ (vS43 vw42.drew ∧ vS43 vw42.drew ∧ Nw vw42.drew (.cells #[.int .i64 x45, .int .i64 x47, .int .i64 r31, .int .i64 x49, .int .i64 r31, .int .i64 r40, .int .i64 x51, .int .i64 r40] 43) fun vw60 =>
                      R (⟨some ⟨vw42.drew.heap.size, 0, none⟩, 4, 4⟩ : Slc) 0 vw60) ∧
                    (vS43 vw42.drew ∧ vS43 vw42.drew ∧ Nw vw42.drew (.cells #[.int .i64 x45, .int .i64 x47, .int .i64 r31, .int .i64 x49, .int .i64 r31, .int .i64 r40, .int .i64 x51, .int .i64 r40] 43) fun vw61 =>
                      R (⟨some ⟨vw42.drew.heap.size, 0, none⟩, 4, 4⟩ : Slc) 0 vw61)) ∧
                  (vS43 vw42.drew ∧ (vS43 vw42.drew ∧ vS43 vw42.drew ∧ Nw vw42.drew (.cells #[.int .i64 x45, .int .i64 x47, .int .i64 r31, .int .i64 x49, .int .i64 r31, .int .i64 r40, .int .i64 x51, .int .i64 r40] 43) fun vw62 =>
                      R (⟨some ⟨vw42.drew.heap.size, 0, none⟩, 4, 4⟩ : Slc) 0 vw62) ∧
                    (vS43 vw42.drew ∧ vS43 vw42.drew ∧ Nw vw42.drew (.cells #[.int .i64 x45, .int .i64 x47, .int .i64 r31, .int .i64 x49, .int .i64 r31, .int .i64 r40, .int .i64 x51, .int .i64 r40] 43) fun vw63 =>
                      R (⟨some ⟨vw42.drew.heap.size, 0, none⟩, 4, 4⟩ : Slc) 0 vw63)))) ∧
              ((vS43 vw42.drew ∧ (vS43 vw42.drew ∧ (vS43 vw42.drew ∧ vS43 vw42.drew ∧ Nw vw42.drew (.cells #[.int .i64 x45, .int .i64 x47, .int .i64 r31, .int .i64 x49, .int .i64 r31, .int .i64 r40, .int .i64 x51, .int .i64 r40] 43) fun vw64 =>
                      R (⟨some ⟨vw42.drew.heap.size, 0, none⟩, 4, 4⟩ : Slc) 0 vw64) ∧
                    (vS43 vw42.drew ∧ vS43 vw42.drew ∧ Nw vw42.drew (.cells #[.int .i64 x45, .int .i64 x47, .int .i64 r31, .int .i64 x49, .int .i64 r31, .int .i64 r40, .int .i64 x51, .int .i64 r40] 43) fun vw65 =>
                      R (⟨some ⟨vw42.drew.heap.size, 0, none⟩, 4, 4⟩ : Slc) 0 vw65)) ∧
                  ((vS43 vw42.drew ∧ (vS43 vw42.drew ∧ vS43 vw42.drew ∧ Nw vw42.drew (.cells #[.int .i64 x45, .int .i64 x47, .int .i64 r31, .int .i64 x49, .int .i64 r31, .int .i64 r40, .int .i64 x51, .int .i64 r40] 43) fun vw66 =>
                        R (⟨some ⟨vw42.drew.heap.size, 0, none⟩, 4, 4⟩ : Slc) 0 vw66) ∧
                      (vS43 vw42.drew ∧ vS43 vw42.drew ∧ Nw vw42.drew (.cells #[.int .i64 x45, .int .i64 x47, .int .i64 r31, .int .i64 x49, .int .i64 r31, .int .i64 r40, .int .i64 x51, .int .i64 r40] 43) fun vw67 =>
                        R (⟨some ⟨vw42.drew.heap.size, 0, none⟩, 4, 4⟩ : Slc) 0 vw67)) ∧
                    (vS43 vw42.drew ∧ (vS43 vw42.drew ∧ vS43 vw42.drew ∧ Nw vw42.drew (.cells #[.int .i64 x45, .int .i64 x47, .int .i64 r31, .int .i64 x49, .int .i64 r31, .int .i64 r40, .int .i64 x51, .int .i64 r40] 43) fun vw68 =>
                        R (⟨some ⟨vw42.drew.heap.size, 0, none⟩, 4, 4⟩ : Slc) 0 vw68) ∧
                      (vS43 vw42.drew ∧ vS43 vw42.drew ∧ Nw vw42.drew (.cells #[.int .i64 x45, .int .i64 x47, .int .i64 r31, .int .i64 x49, .int .i64 r31, .int .i64 r40, .int .i64 x51, .int .i64 r40] 43) fun vw69 =>
                        R (⟨some ⟨vw42.drew.heap.size, 0, none⟩, 4, 4⟩ : Slc) 0 vw69)))) ∧
                (vS43 vw42.drew ∧ (vS43 vw42.drew ∧ (vS43 vw42.drew ∧ vS43 vw42.drew ∧ Nw vw42.drew (.cells #[.int .i64 x45, .int .i64 x47, .int .i64 r31, .int .i64 x49, .int .i64 r31, .int .i64 r40, .int .i64 x51, .int .i64 r40] 43) fun vw70 =>
                      R (⟨some ⟨vw42.drew.heap.size, 0, none⟩, 4, 4⟩ : Slc) 0 vw70) ∧
                    (vS43 vw42.drew ∧ vS43 vw42.drew ∧ Nw vw42.drew (.cells #[.int .i64 x45, .int .i64 x47, .int .i64 r31, .int .i64 x49, .int .i64 r31, .int .i64 r40, .int .i64 x51, .int .i64 r40] 43) fun vw71 =>
                      R (⟨some ⟨vw42.drew.heap.size, 0, none⟩, 4, 4⟩ : Slc) 0 vw71)) ∧
                  ((vS43 vw42.drew ∧ (vS43 vw42.drew ∧ vS43 vw42.drew ∧ Nw vw42.drew (.cells #[.int .i64 x45, .int .i64 x47, .int .i64 r31, .int .i64 x49, .int .i64 r31, .int .i64 r40, .int .i64 x51, .int .i64 r40] 43) fun vw72 =>
                        R (⟨some ⟨vw42.drew.heap.size, 0, none⟩, 4, 4⟩ : Slc) 0 vw72) ∧
                      (vS43 vw42.drew ∧ vS43 vw42.drew ∧ Nw vw42.drew (.cells #[.int .i64 x45, .int .i64 x47, .int .i64 r31, .int .i64 x49, .int .i64 r31, .int .i64 r40, .int .i64 x51, .int .i64 r40] 43) fun vw73 =>
                        R (⟨some ⟨vw42.drew.heap.size, 0, none⟩, 4, 4⟩ : Slc) 0 vw73)) ∧
                    (vS43 vw42.drew ∧ (vS43 vw42.drew ∧ vS43 vw42.drew ∧ Nw vw42.drew (.cells #[.int .i64 x45, .int .i64 x47, .int .i64 r31, .int .i64 x49, .int .i64 r31, .int .i64 r40, .int .i64 x51, .int .i64 r40] 43) fun vw74 =>
                        R (⟨some ⟨vw42.drew.heap.size, 0, none⟩, 4, 4⟩ : Slc) 0 vw74) ∧
                      (vS43 vw42.drew ∧ vS43 vw42.drew ∧ Nw vw42.drew (.cells #[.int .i64 x45, .int .i64 x47, .int .i64 r31, .int .i64 x49, .int .i64 r31, .int .i64 r40, .int .i64 x51, .int .i64 r40] 43) fun vw75 =>
                        R (⟨some ⟨vw42.drew.heap.size, 0, none⟩, 4, 4⟩ : Slc) 0 vw75)))))))))
def pl100 : Plan := (.seq (.reg .seq) (.seq (.seq (.reg .seq) (.cond (.seq (.reg .seq) (.seq (.seq (.reg .seq) (.block (.loop [(6, (.one .slc)), (7, (.one (.int .i64)))] [1] (.seq (.seq (.reg .seq) (.cond .leaf .leaf)) (.seq (.block (.reg (.held [10] (.take 0 (.take 1 (.take 2 (.take 3 (.take 4 (.take 5 (.take 6 (.take 7 (.take 8 (.take 9 (.eff 10 (some [11]) (.eff 11 (some [12]) (.eff 12 (some []) (.take 13 .done))))))))))))))))) (.reg .seq)))))) (.seq (.reg .seq) .leaf))) .leaf)) (.seq (.reg (.held [6] (.take 0 (.take 1 (.take 2 (.take 3 (.take 4 (.take 5 (.eff 6 (some [7]) (.eff 7 (some []) (.take 8 (.take 9 (.take 10 (.take 11 (.take 12 .done))))))))))))))) (.seq (.seq (.reg .seq) (.cond (.seq (.reg .seq) .leaf) .leaf)) (.seq (.reg (.held [6] (.take 0 (.take 1 (.take 2 (.take 3 (.take 4 (.take 5 (.eff 6 (some [7]) (.eff 7 (some []) (.take 8 (.take 9 (.take 10 (.take 11 (.take 12 .done))))))))))))))) (.seq (.seq (.reg .seq) (.cond (.seq (.reg .seq) .leaf) .leaf)) (.seq (.reg (.held [20] (.take 0 (.take 1 (.take 2 (.take 3 (.take 4 (.take 5 (.take 7 (.take 8 (.take 9 (.take 10 (.take 12 (.take 13 (.take 15 (.take 16 (.take 17 (.take 18 (.effs 6 none (.effs 11 none (.effs 14 none (.eff 19 none (.eff 20 (some []) (.take 21 (.take 22 .done)))) (.eff 19 none (.eff 14 none (.eff 20 (some []) (.take 21 (.take 22 .done)))))) (.effs 14 none (.effs 11 none (.eff 19 none (.eff 20 (some []) (.take 21 (.take 22 .done)))) (.eff 19 none (.eff 11 none (.eff 20 (some []) (.take 21 (.take 22 .done)))))) (.eff 19 none (.effs 11 none (.eff 14 none (.eff 20 (some []) (.take 21 (.take 22 .done)))) (.eff 14 none (.eff 11 none (.eff 20 (some []) (.take 21 (.take 22 .done))))))))) (.effs 11 none (.effs 6 none (.effs 14 none (.eff 19 none (.eff 20 (some []) (.take 21 (.take 22 .done)))) (.eff 19 none (.eff 14 none (.eff 20 (some []) (.take 21 (.take 22 .done)))))) (.effs 14 none (.effs 6 none (.eff 19 none (.eff 20 (some []) (.take 21 (.take 22 .done)))) (.eff 19 none (.eff 6 none (.eff 20 (some []) (.take 21 (.take 22 .done)))))) (.eff 19 none (.effs 6 none (.eff 14 none (.eff 20 (some []) (.take 21 (.take 22 .done)))) (.eff 14 none (.eff 6 none (.eff 20 (some []) (.take 21 (.take 22 .done))))))))) (.effs 14 none (.effs 6 none (.effs 11 none (.eff 19 none (.eff 20 (some []) (.take 21 (.take 22 .done)))) (.eff 19 none (.eff 11 none (.eff 20 (some []) (.take 21 (.take 22 .done)))))) (.effs 11 none (.effs 6 none (.eff 19 none (.eff 20 (some []) (.take 21 (.take 22 .done)))) (.eff 19 none (.eff 6 none (.eff 20 (some []) (.take 21 (.take 22 .done)))))) (.eff 19 none (.effs 6 none (.eff 11 none (.eff 20 (some []) (.take 21 (.take 22 .done)))) (.eff 11 none (.eff 6 none (.eff 20 (some []) (.take 21 (.take 22 .done))))))))) (.eff 19 none (.effs 6 none (.effs 11 none (.eff 14 none (.eff 20 (some []) (.take 21 (.take 22 .done)))) (.eff 14 none (.eff 11 none (.eff 20 (some []) (.take 21 (.take 22 .done)))))) (.effs 11 none (.effs 6 none (.eff 14 none (.eff 20 (some []) (.take 21 (.take 22 .done)))) (.eff 14 none (.eff 6 none (.eff 20 (some []) (.take 21 (.take 22 .done)))))) (.eff 14 none (.effs 6 none (.eff 11 none (.eff 20 (some []) (.take 21 (.take 22 .done)))) (.eff 11 none (.eff 6 none (.eff 20 (some []) (.take 21 (.take 22 .done))))))))))))))))))))))))))))))) .leaf)))))))
set_option maxRecDepth 100000 in
theorem T100 (name1 : ByteArray) (n2 : Slc) (w : World) (R : Slc → Int → World → Prop) (h : S100 name1 n2 w R) : C100 name1 n2 w R := by
  have e : fnT Tryd.prog ⟨FF, MAY, (fun _ _ => False)⟩ pl100 Tryd.f100 [.string name1, Slc.v n2] w [(.one .slc), (.one (.int .i64))] (fun s w => R s.1 s.2 w) = S100 name1 n2 w R := by kernel_rfl
  exact (fn_calls okF okM Tryd.func100 (by kernel_rfl) (by kernel_rfl) (e.mpr h)).mono fun _ _ ⟨s, he, hR⟩ => ⟨s.1, s.2, he, hR⟩

def S101L1 (w : World) (l1 : Slc) (vw18 : World) (R : (Int × Int) → World → Prop) (I36 : Int → World → Prop) (s34 : Int) (vw35 : World) : Prop :=
  Br (decide (s34 < ((l1.len : Nat) : Int))) (0 ≤ s34 ∧ s34 < (l1.len : Nat) ∧ Nn l1.p fun a37 =>
    Ld vw35 (a37.add ((s34).toNat * 7)) (Value.int .i64) fun (x38 : Int) =>
    Ld vw35 ((a37.add ((s34).toNat * 7)).add 1) (Value.int .i64) fun (x39 : Int) =>
    Ld vw35 ((a37.add ((s34).toNat * 7)).add 2) (Value.int .i64) fun (x40 : Int) =>
    Ld vw35 ((a37.add ((s34).toNat * 7)).add 3) (Value.int .i64) fun (x41 : Int) =>
    Ld vw35 ((a37.add ((s34).toNat * 7)).add 4) (Value.int .i64) fun (x42 : Int) =>
    Ld vw35 ((a37.add ((s34).toNat * 7)).add 5) (Value.int .i64) fun (x43 : Int) =>
    Ld vw35 ((a37.add ((s34).toNat * 7)).add 6) (Value.int .i64) fun (x44 : Int) =>
    Nw vw35 (.cells #[.int .i64 0, .int .i64 0, .int .i64 0, .int .i64 0, .int .i64 0, .int .i64 0, .int .i64 0] 67) fun vw45 =>
    St vw45 (⟨vw35.heap.size, 0, none⟩ : Addr) (.int .i64 x38) fun vw46 =>
    St vw46 ((⟨vw35.heap.size, 0, none⟩ : Addr).add 1) (.int .i64 x39) fun vw47 =>
    St vw47 ((⟨vw35.heap.size, 0, none⟩ : Addr).add 2) (.int .i64 x40) fun vw48 =>
    St vw48 ((⟨vw35.heap.size, 0, none⟩ : Addr).add 3) (.int .i64 x41) fun vw49 =>
    St vw49 ((⟨vw35.heap.size, 0, none⟩ : Addr).add 4) (.int .i64 x42) fun vw50 =>
    St vw50 ((⟨vw35.heap.size, 0, none⟩ : Addr).add 5) (.int .i64 x43) fun vw51 =>
    St vw51 ((⟨vw35.heap.size, 0, none⟩ : Addr).add 6) (.int .i64 x44) fun vw52 =>
    Ld vw52 (⟨vw35.heap.size, 0, none⟩ : Addr) (Value.int .i64) fun (x53 : Int) =>
    Br (x53 == 1) (Ld vw52 ((⟨vw35.heap.size, 0, none⟩ : Addr).add 5) (Value.int .i64) fun (x54 : Int) =>
      Ld vw52 (((⟨vw35.heap.size, 0, none⟩ : Addr).add 5).add 1) (Value.int .i64) fun (x55 : Int) =>
      St vw52 (⟨vw18.heap.size, 0, none⟩ : Addr) (.int .i64 x54) fun vw56 =>
      St vw56 ((⟨vw18.heap.size, 0, none⟩ : Addr).add 1) (.int .i64 x55) fun vw57 =>
      I36 (IntKind.i64.wrap (s34 + 1)) vw57) (I36 (IntKind.i64.wrap (s34 + 1)) vw52)) (Ld vw35 (⟨vw18.heap.size, 0, none⟩ : Addr) (Value.int .i64) fun (x58 : Int) =>
    Ld vw35 ((⟨vw18.heap.size, 0, none⟩ : Addr).add 1) (Value.int .i64) fun (x59 : Int) =>
    St vw35 (⟨w.heap.size, 0, none⟩ : Addr) (.int .i64 x58) fun vw60 =>
    St vw60 ((⟨w.heap.size, 0, none⟩ : Addr).add 1) (.int .i64 x59) fun vw61 =>
    Ld vw61 (⟨w.heap.size, 0, none⟩ : Addr) (Value.int .i64) fun (x62 : Int) =>
    Ld vw61 ((⟨w.heap.size, 0, none⟩ : Addr).add 1) (Value.int .i64) fun (x63 : Int) =>
    R (x62, x63) vw61)
/-- foliant/foliantref45.current -/
def S101 (l1 : Slc) (w : World) (R : (Int × Int) → World → Prop) : Prop :=
  Nw w (.cells #[.int .i64 0, .int .i64 0] 43) fun vw2 =>
  0 ≤ (IntKind.i64.wrap (((l1.len : Nat) : Int) - 1)) ∧ (IntKind.i64.wrap (((l1.len : Nat) : Int) - 1)) < (l1.len : Nat) ∧ Nn l1.p fun a3 =>
  Ld vw2 (a3.add ((IntKind.i64.wrap (((l1.len : Nat) : Int) - 1)).toNat * 7)) (Value.int .i64) fun (x4 : Int) =>
  Ld vw2 ((a3.add ((IntKind.i64.wrap (((l1.len : Nat) : Int) - 1)).toNat * 7)).add 1) (Value.int .i64) fun (x5 : Int) =>
  Ld vw2 ((a3.add ((IntKind.i64.wrap (((l1.len : Nat) : Int) - 1)).toNat * 7)).add 2) (Value.int .i64) fun (x6 : Int) =>
  Ld vw2 ((a3.add ((IntKind.i64.wrap (((l1.len : Nat) : Int) - 1)).toNat * 7)).add 3) (Value.int .i64) fun (x7 : Int) =>
  Ld vw2 ((a3.add ((IntKind.i64.wrap (((l1.len : Nat) : Int) - 1)).toNat * 7)).add 4) (Value.int .i64) fun (x8 : Int) =>
  Ld vw2 ((a3.add ((IntKind.i64.wrap (((l1.len : Nat) : Int) - 1)).toNat * 7)).add 5) (Value.int .i64) fun (x9 : Int) =>
  Ld vw2 ((a3.add ((IntKind.i64.wrap (((l1.len : Nat) : Int) - 1)).toNat * 7)).add 6) (Value.int .i64) fun (x10 : Int) =>
  Nw vw2 (.cells #[.int .i64 0, .int .i64 0, .int .i64 0, .int .i64 0, .int .i64 0, .int .i64 0, .int .i64 0] 67) fun vw11 =>
  St vw11 (⟨vw2.heap.size, 0, none⟩ : Addr) (.int .i64 x4) fun vw12 =>
  St vw12 ((⟨vw2.heap.size, 0, none⟩ : Addr).add 1) (.int .i64 x5) fun vw13 =>
  St vw13 ((⟨vw2.heap.size, 0, none⟩ : Addr).add 2) (.int .i64 x6) fun vw14 =>
  St vw14 ((⟨vw2.heap.size, 0, none⟩ : Addr).add 3) (.int .i64 x7) fun vw15 =>
  St vw15 ((⟨vw2.heap.size, 0, none⟩ : Addr).add 4) (.int .i64 x8) fun vw16 =>
  St vw16 ((⟨vw2.heap.size, 0, none⟩ : Addr).add 5) (.int .i64 x9) fun vw17 =>
  St vw17 ((⟨vw2.heap.size, 0, none⟩ : Addr).add 6) (.int .i64 x10) fun vw18 =>
  Ld vw18 (⟨vw2.heap.size, 0, none⟩ : Addr) (Value.int .i64) fun (x24 : Int) =>
  Br (x24 != 4) (Ld vw18 ((⟨vw2.heap.size, 0, none⟩ : Addr).add 5) (Value.int .i64) fun (x25 : Int) =>
    Ld vw18 (((⟨vw2.heap.size, 0, none⟩ : Addr).add 5).add 1) (Value.int .i64) fun (x26 : Int) =>
    St vw18 (⟨w.heap.size, 0, none⟩ : Addr) (.int .i64 x25) fun vw27 =>
    St vw27 ((⟨w.heap.size, 0, none⟩ : Addr).add 1) (.int .i64 x26) fun vw28 =>
    Ld vw28 (⟨w.heap.size, 0, none⟩ : Addr) (Value.int .i64) fun (x29 : Int) =>
    Ld vw28 ((⟨w.heap.size, 0, none⟩ : Addr).add 1) (Value.int .i64) fun (x30 : Int) =>
    R (x29, x30) vw28) (Nw vw18 (.cells #[.int .i64 0, .int .i64 0] 43) fun vw31 =>
    St vw31 (⟨vw18.heap.size, 0, none⟩ : Addr) (.int .i64 0) fun vw32 =>
    St vw32 ((⟨vw18.heap.size, 0, none⟩ : Addr).add 1) (.int .i64 0) fun vw33 =>
    Lp (σ := Int) (S101L1 w l1 vw18 R) 0 vw33)
def pl101 : Plan := (.seq (.reg .seq) (.seq (.reg .seq) (.seq (.seq (.reg .seq) (.cond (.seq (.reg .seq) .leaf) .leaf)) (.seq (.reg .seq) (.seq (.seq (.reg .seq) (.block (.loop [(21, (.one (.int .i64)))] [2, 4, 19, 20] (.seq (.reg .seq) (.seq (.cond .leaf .leaf) (.seq (.block (.seq (.reg .seq) (.seq (.reg .seq) (.cond (.reg .seq) .leaf)))) (.reg .seq))))))) (.seq (.reg .seq) .leaf))))))
set_option maxRecDepth 100000 in
theorem T101 (l1 : Slc) (w : World) (R : (Int × Int) → World → Prop) (h : S101 l1 w R) : C101 l1 w R := by
  have e : fnT Tryd.prog ⟨FF, MAY, (fun _ _ => False)⟩ pl101 Tryd.f101 [Slc.v l1] w [(.agg [(.int .i64), (.int .i64)])] (fun s w => R s w) = S101 l1 w R := by kernel_rfl
  exact (fn_calls okF okM Tryd.func101 (by kernel_rfl) (by kernel_rfl) (e.mpr h)).mono fun _ _ ⟨s, he, hR⟩ => ⟨s, he, hR⟩

/-- foliant/foliantref45.parts -/
def S102 (name1 : ByteArray) (p2 : Slc) (here3 : Int × Int) (w : World) (R : Slc → World → Prop) : Prop :=
  Nw w (.cells #[.int .i64 (here3.1), .int .i64 (here3.2)] 43) fun vw4 =>
  Br (name1.toList == (⟨#[109]⟩ : ByteArray).toList) (0 ≤ (0 : Int) ∧ (0 : Int) < (p2.len : Nat) ∧ Nn p2.p fun a5 =>
    Ld vw4 (a5.add (((0 : Int)).toNat * 2)) (Value.int .i64) fun (x6 : Int) =>
    Ld vw4 ((a5.add (((0 : Int)).toNat * 2)).add 1) (Value.int .i64) fun (x7 : Int) =>
    Nw vw4 (.cells #[.int .i64 1, .int .i64 0, .int .i64 0, .int .i64 0, .int .i64 0, .int .i64 x6, .int .i64 x7] 67) fun vw8 =>
    R (⟨some ⟨vw4.heap.size, 0, none⟩, 1, 1⟩ : Slc) vw8) (Br (name1.toList == (⟨#[108]⟩ : ByteArray).toList) (0 ≤ (0 : Int) ∧ (0 : Int) < (p2.len : Nat) ∧ Nn p2.p fun a9 =>
      Ld vw4 (a9.add (((0 : Int)).toNat * 2)) (Value.int .i64) fun (x10 : Int) =>
      Ld vw4 ((a9.add (((0 : Int)).toNat * 2)).add 1) (Value.int .i64) fun (x11 : Int) =>
      Nw vw4 (.cells #[.int .i64 2, .int .i64 0, .int .i64 0, .int .i64 0, .int .i64 0, .int .i64 x10, .int .i64 x11] 67) fun vw12 =>
      R (⟨some ⟨vw4.heap.size, 0, none⟩, 1, 1⟩ : Slc) vw12) (Br (name1.toList == (⟨#[99]⟩ : ByteArray).toList) (0 ≤ (0 : Int) ∧ (0 : Int) < (p2.len : Nat) ∧ Nn p2.p fun a13 =>
        Ld vw4.drew (a13.add (((0 : Int)).toNat * 2)) (Value.int .i64) fun (x14 : Int) =>
        Ld vw4.drew ((a13.add (((0 : Int)).toNat * 2)).add 1) (Value.int .i64) fun (x15 : Int) =>
        0 ≤ (1 : Int) ∧ (1 : Int) < (p2.len : Nat) ∧ Nn p2.p fun a16 =>
        Ld vw4.drew (a16.add (((1 : Int)).toNat * 2)) (Value.int .i64) fun (x17 : Int) =>
        Ld vw4.drew ((a16.add (((1 : Int)).toNat * 2)).add 1) (Value.int .i64) fun (x18 : Int) =>
        0 ≤ (2 : Int) ∧ (2 : Int) < (p2.len : Nat) ∧ Nn p2.p fun a19 =>
        Ld vw4.drew (a19.add (((2 : Int)).toNat * 2)) (Value.int .i64) fun (x20 : Int) =>
        Ld vw4.drew ((a19.add (((2 : Int)).toNat * 2)).add 1) (Value.int .i64) fun (x21 : Int) =>
        Nw vw4.drew (.cells #[.int .i64 3, .int .i64 x14, .int .i64 x15, .int .i64 x17, .int .i64 x18, .int .i64 x20, .int .i64 x21] 67) fun vw22 =>
        R (⟨some ⟨vw4.drew.heap.size, 0, none⟩, 1, 1⟩ : Slc) vw22) (Br (name1.toList == (⟨#[118]⟩ : ByteArray).toList) (Ld vw4.drew (⟨w.heap.size, 0, none⟩ : Addr) (Value.int .i64) fun (x23 : Int) =>
          Ld vw4.drew ((⟨w.heap.size, 0, none⟩ : Addr).add 1) (Value.int .i64) fun (x24 : Int) =>
          0 ≤ (0 : Int) ∧ (0 : Int) < (p2.len : Nat) ∧ Nn p2.p fun a25 =>
          Ld vw4.drew (a25.add (((0 : Int)).toNat * 2)) (Value.int .i64) fun (x26 : Int) =>
          Ld vw4.drew ((a25.add (((0 : Int)).toNat * 2)).add 1) (Value.int .i64) fun (x27 : Int) =>
          0 ≤ (1 : Int) ∧ (1 : Int) < (p2.len : Nat) ∧ Nn p2.p fun a28 =>
          Ld vw4.drew (a28.add (((1 : Int)).toNat * 2)) (Value.int .i64) fun (x29 : Int) =>
          Ld vw4.drew ((a28.add (((1 : Int)).toNat * 2)).add 1) (Value.int .i64) fun (x30 : Int) =>
          Nw vw4.drew (.cells #[.int .i64 3, .int .i64 x23, .int .i64 x24, .int .i64 x26, .int .i64 x27, .int .i64 x29, .int .i64 x30] 67) fun vw31 =>
          R (⟨some ⟨vw4.drew.heap.size, 0, none⟩, 1, 1⟩ : Slc) vw31) (Br (name1.toList == (⟨#[121]⟩ : ByteArray).toList) (0 ≤ (0 : Int) ∧ (0 : Int) < (p2.len : Nat) ∧ Nn p2.p fun a32 =>
            Ld vw4.drew (a32.add (((0 : Int)).toNat * 2)) (Value.int .i64) fun (x33 : Int) =>
            Ld vw4.drew ((a32.add (((0 : Int)).toNat * 2)).add 1) (Value.int .i64) fun (x34 : Int) =>
            0 ≤ (1 : Int) ∧ (1 : Int) < (p2.len : Nat) ∧ Nn p2.p fun a35 =>
            Ld vw4.drew (a35.add (((1 : Int)).toNat * 2)) (Value.int .i64) fun (x36 : Int) =>
            Ld vw4.drew ((a35.add (((1 : Int)).toNat * 2)).add 1) (Value.int .i64) fun (x37 : Int) =>
            0 ≤ (1 : Int) ∧ (1 : Int) < (p2.len : Nat) ∧ Nn p2.p fun a38 =>
            Ld vw4.drew (a38.add (((1 : Int)).toNat * 2)) (Value.int .i64) fun (x39 : Int) =>
            Ld vw4.drew ((a38.add (((1 : Int)).toNat * 2)).add 1) (Value.int .i64) fun (x40 : Int) =>
            Nw vw4.drew (.cells #[.int .i64 3, .int .i64 x33, .int .i64 x34, .int .i64 x36, .int .i64 x37, .int .i64 x39, .int .i64 x40] 67) fun vw41 =>
            R (⟨some ⟨vw4.drew.heap.size, 0, none⟩, 1, 1⟩ : Slc) vw41) (Br (name1.toList == (⟨#[104]⟩ : ByteArray).toList) (Nw vw4 (.cells #[.int .i64 4, .int .i64 0, .int .i64 0, .int .i64 0, .int .i64 0, .int .i64 0, .int .i64 0] 67) fun vw42 =>
              R (⟨some ⟨vw4.heap.size, 0, none⟩, 1, 1⟩ : Slc) vw42) (Br (name1.toList == (⟨#[114, 101]⟩ : ByteArray).toList) (∃ vS43 : World → Prop, vS43 vw4.drew ∧ 0 ≤ (0 : Int) ∧ (0 : Int) < (p2.len : Nat) ∧ Nn p2.p fun a44 =>
                LdS vS43 (a44.add (((0 : Int)).toNat * 2)) (Value.int .i64) fun (x45 : Int) =>
                LdS vS43 ((a44.add (((0 : Int)).toNat * 2)).add 1) (Value.int .i64) fun (x46 : Int) =>
                0 ≤ (1 : Int) ∧ (1 : Int) < (p2.len : Nat) ∧ Nn p2.p fun a47 =>
                LdS vS43 (a47.add (((1 : Int)).toNat * 2)) (Value.int .i64) fun (x48 : Int) =>
                LdS vS43 ((a47.add (((1 : Int)).toNat * 2)).add 1) (Value.int .i64) fun (x49 : Int) =>
                0 ≤ (2 : Int) ∧ (2 : Int) < (p2.len : Nat) ∧ Nn p2.p fun a50 =>
                LdS vS43 (a50.add (((2 : Int)).toNat * 2)) (Value.int .i64) fun (x51 : Int) =>
                LdS vS43 ((a50.add (((2 : Int)).toNat * 2)).add 1) (Value.int .i64) fun (x52 : Int) =>
                0 ≤ (3 : Int) ∧ (3 : Int) < (p2.len : Nat) ∧ Nn p2.p fun a53 =>
                LdS vS43 (a53.add (((3 : Int)).toNat * 2)) (Value.int .i64) fun (x54 : Int) =>
                LdS vS43 ((a53.add (((3 : Int)).toNat * 2)).add 1) (Value.int .i64) fun (x55 : Int) =>
                ∃ le56 : World → World → Prop, ∃ B57 : World → Prop, B57 vw4.drew ∧ ∃ G58 : (Int × Int × Int × Int × Int × Int × Int) → World → Prop, (∀ (x59 : Int × Int × Int × Int × Int × Int × Int) (vw60 : World) (vw61 : World), le56 vw60 vw61 → G58 x59 vw60 → G58 x59 vw61) ∧
                ∃ G62 : (Int × Int × Int × Int × Int × Int × Int) → World → Prop, (∀ (x63 : Int × Int × Int × Int × Int × Int × Int) (vw64 : World) (vw65 : World), le56 vw64 vw65 → G62 x63 vw64 → G62 x63 vw65) ∧
                ∃ G66 : (Int × Int × Int × Int × Int × Int × Int) → World → Prop, (∀ (x67 : Int × Int × Int × Int × Int × Int × Int) (vw68 : World) (vw69 : World), le56 vw68 vw69 → G66 x67 vw68 → G66 x67 vw69) ∧
                ∃ G70 : (Int × Int × Int × Int × Int × Int × Int) → World → Prop, (∀ (x71 : Int × Int × Int × Int × Int × Int × Int) (vw72 : World) (vw73 : World), le56 vw72 vw73 → G70 x71 vw72 → G70 x71 vw73) ∧
                ∃ G74 : (Int × Int × Int × Int × Int × Int × Int) → World → Prop, (∀ (x75 : Int × Int × Int × Int × Int × Int × Int) (vw76 : World) (vw77 : World), le56 vw76 vw77 → G74 x75 vw76 → G74 x75 vw77) ∧
                ((∀ (vw78 : World), vS43 vw78 → B57 vw78 → vS43 vw78 ∧ B57 vw78 ∧ le56 vw78 vw78 ∧ ∃ x79 : Int × Int × Int × Int × Int × Int × Int, (.agg #[.int .i64 1, .int .i64 0, .int .i64 0, .int .i64 0, .int .i64 0, .int .i64 x45, .int .i64 x46] : Value) = .agg #[.int .i64 (x79.1), .int .i64 (x79.2.1), .int .i64 (x79.2.2.1), .int .i64 (x79.2.2.2.1), .int .i64 (x79.2.2.2.2.1), .int .i64 (x79.2.2.2.2.2.1), .int .i64 (x79.2.2.2.2.2.2)] ∧ G58 x79 vw78) ∧
                (∀ (vw80 : World), vS43 vw80 → B57 vw80 → vS43 vw80 ∧ B57 vw80 ∧ le56 vw80 vw80 ∧ ∃ x81 : Int × Int × Int × Int × Int × Int × Int, (.agg #[.int .i64 2, .int .i64 0, .int .i64 0, .int .i64 0, .int .i64 0, .int .i64 x48, .int .i64 x49] : Value) = .agg #[.int .i64 (x81.1), .int .i64 (x81.2.1), .int .i64 (x81.2.2.1), .int .i64 (x81.2.2.2.1), .int .i64 (x81.2.2.2.2.1), .int .i64 (x81.2.2.2.2.2.1), .int .i64 (x81.2.2.2.2.2.2)] ∧ G62 x81 vw80) ∧
                (∀ (vw82 : World), vS43 vw82 → B57 vw82 → vS43 vw82 ∧ B57 vw82 ∧ le56 vw82 vw82 ∧ ∃ x83 : Int × Int × Int × Int × Int × Int × Int, (.agg #[.int .i64 2, .int .i64 0, .int .i64 0, .int .i64 0, .int .i64 0, .int .i64 x51, .int .i64 x52] : Value) = .agg #[.int .i64 (x83.1), .int .i64 (x83.2.1), .int .i64 (x83.2.2.1), .int .i64 (x83.2.2.2.1), .int .i64 (x83.2.2.2.2.1), .int .i64 (x83.2.2.2.2.2.1), .int .i64 (x83.2.2.2.2.2.2)] ∧ G66 x83 vw82) ∧
                (∀ (vw84 : World), vS43 vw84 → B57 vw84 → vS43 vw84 ∧ B57 vw84 ∧ le56 vw84 vw84 ∧ ∃ x85 : Int × Int × Int × Int × Int × Int × Int, (.agg #[.int .i64 2, .int .i64 0, .int .i64 0, .int .i64 0, .int .i64 0, .int .i64 x54, .int .i64 x55] : Value) = .agg #[.int .i64 (x85.1), .int .i64 (x85.2.1), .int .i64 (x85.2.2.1), .int .i64 (x85.2.2.2.1), .int .i64 (x85.2.2.2.2.1), .int .i64 (x85.2.2.2.2.2.1), .int .i64 (x85.2.2.2.2.2.2)] ∧ G70 x85 vw84) ∧
                (∀ (vw86 : World), vS43 vw86 → B57 vw86 → vS43 vw86 ∧ B57 vw86 ∧ le56 vw86 vw86 ∧ ∃ x87 : Int × Int × Int × Int × Int × Int × Int, (.agg #[.int .i64 4, .int .i64 0, .int .i64 0, .int .i64 0, .int .i64 0, .int .i64 0, .int .i64 0] : Value) = .agg #[.int .i64 (x87.1), .int .i64 (x87.2.1), .int .i64 (x87.2.2.1), .int .i64 (x87.2.2.2.1), .int .i64 (x87.2.2.2.2.1), .int .i64 (x87.2.2.2.2.2.1), .int .i64 (x87.2.2.2.2.2.2)] ∧ G74 x87 vw86) ∧
                True) ∧
                (∀ (vw88 : World), vS43 vw88 → B57 vw88 → ∀ (x89 : Int × Int × Int × Int × Int × Int × Int), G58 x89 vw88 → ∀ (x90 : Int × Int × Int × Int × Int × Int × Int), G62 x90 vw88 → ∀ (x91 : Int × Int × Int × Int × Int × Int × Int), G66 x91 vw88 → ∀ (x92 : Int × Int × Int × Int × Int × Int × Int), G70 x92 vw88 → ∀ (x93 : Int × Int × Int × Int × Int × Int × Int), G74 x93 vw88 → Nw vw88 (.cells #[.int .i64 (x89.1), .int .i64 (x89.2.1), .int .i64 (x89.2.2.1), .int .i64 (x89.2.2.2.1), .int .i64 (x89.2.2.2.2.1), .int .i64 (x89.2.2.2.2.2.1), .int .i64 (x89.2.2.2.2.2.2), .int .i64 (x90.1), .int .i64 (x90.2.1), .int .i64 (x90.2.2.1), .int .i64 (x90.2.2.2.1), .int .i64 (x90.2.2.2.2.1), .int .i64 (x90.2.2.2.2.2.1), .int .i64 (x90.2.2.2.2.2.2), .int .i64 (x91.1), .int .i64 (x91.2.1), .int .i64 (x91.2.2.1), .int .i64 (x91.2.2.2.1), .int .i64 (x91.2.2.2.2.1), .int .i64 (x91.2.2.2.2.2.1), .int .i64 (x91.2.2.2.2.2.2), .int .i64 (x92.1), .int .i64 (x92.2.1), .int .i64 (x92.2.2.1), .int .i64 (x92.2.2.2.1), .int .i64 (x92.2.2.2.2.1), .int .i64 (x92.2.2.2.2.2.1), .int .i64 (x92.2.2.2.2.2.2), .int .i64 (x93.1), .int .i64 (x93.2.1), .int .i64 (x93.2.2.1), .int .i64 (x93.2.2.2.1), .int .i64 (x93.2.2.2.2.1), .int .i64 (x93.2.2.2.2.2.1), .int .i64 (x93.2.2.2.2.2.2)] 67) fun vw94 =>
                  R (⟨some ⟨vw88.heap.size, 0, none⟩, 5, 5⟩ : Slc) vw94)) (R (⟨none, 0, 0⟩ : Slc) vw4)))))))
def pl102 : Plan := (.seq (.reg .seq) (.seq (.seq (.reg .seq) (.block (.seq (.reg .seq) (.cond (.seq (.reg .seq) .leaf) (.seq (.reg .seq) (.cond (.seq (.reg .seq) .leaf) (.seq (.reg .seq) (.cond (.seq (.reg (.tail 9)) .leaf) (.seq (.reg .seq) (.cond (.seq (.reg (.tail 7)) .leaf) (.seq (.reg .seq) (.cond (.seq (.reg (.tail 9)) .leaf) (.seq (.reg .seq) (.cond (.seq (.reg .seq) .leaf) (.seq (.reg .seq) (.cond (.seq (.reg (.held [17] (.take 0 (.take 1 (.take 2 (.take 4 (.take 5 (.take 6 (.take 8 (.take 9 (.take 10 (.take 12 (.take 13 (.take 14 (.mono [3, 7, 11, 15, 16] (.eff 17 (some []) (.take 18 .done))))))))))))))))) .leaf) .leaf)))))))))))))))) (.seq (.reg .seq) .leaf)))
set_option maxRecDepth 100000 in
theorem T102 (name1 : ByteArray) (p2 : Slc) (here3 : Int × Int) (w : World) (R : Slc → World → Prop) (h : S102 name1 p2 here3 w R) : C102 name1 p2 (here3.1, here3.2) w R := by
  have e : fnT Tryd.prog ⟨FF, MAY, (fun _ _ => False)⟩ pl102 Tryd.f102 [.string name1, Slc.v p2, .agg #[.int .i64 (here3.1), .int .i64 (here3.2)]] w [(.one .slc)] (fun s w => R s w) = S102 name1 p2 here3 w R := by kernel_rfl
  exact (fn_calls okF okM Tryd.func102 (by kernel_rfl) (by kernel_rfl) (e.mpr h)).mono fun _ _ ⟨s, he, hR⟩ => ⟨s, he, hR⟩

def S38J1 (w : World) (vw4 : World) (vw6 : World) (s115 : Slc × Int) (vw116 : World) (R : (Slc × Bool) → Int → World → Prop) (s158 : Unit) (vw159 : World) : Prop :=
  Ld vw159 (⟨vw4.heap.size, 0, none⟩ : Addr) Value.string fun (x160 : ByteArray) =>
  Ld vw159 (⟨vw116.heap.size, 0, none⟩ : Addr) (Value.int .i64) fun (x161 : Int) =>
  Ld vw159 ((⟨vw116.heap.size, 0, none⟩ : Addr).add 1) (Value.int .i64) fun (x162 : Int) =>
  C102 x160 s115.1 (x161, x162) vw159 fun r163 vw164 =>
    Ld vw164 (⟨w.heap.size, 0, none⟩ : Addr) Slc.v fun (x170 : Slc) =>
    Br (decide ((IntKind.i64.wrap (((x170.len : Nat) : Int) + ((r163.len : Nat) : Int))) > 8192)) (Ld vw164 (⟨w.heap.size, 0, none⟩ : Addr) Slc.v fun (x171 : Slc) =>
      Ld vw164 ((⟨w.heap.size, 0, none⟩ : Addr).add 1) Value.bool fun (x172 : Bool) =>
      St vw164 (⟨vw6.heap.size, 0, none⟩ : Addr) (Slc.v x171) fun vw173 =>
      St vw173 ((⟨vw6.heap.size, 0, none⟩ : Addr).add 1) (.bool x172) fun vw174 =>
      Ld vw174 (⟨vw6.heap.size, 0, none⟩ : Addr) Slc.v fun (x175 : Slc) =>
      Ld vw174 ((⟨vw6.heap.size, 0, none⟩ : Addr).add 1) Value.bool fun (x176 : Bool) =>
      R (x175, x176) 6 vw174) (∃ vS177 : World → Prop, vS177 vw164.drew ∧ LdS vS177 (⟨w.heap.size, 0, none⟩ : Addr) Slc.v fun (x178 : Slc) =>
      LdS vS177 ((⟨w.heap.size, 0, none⟩ : Addr).add 1) Value.bool fun (x179 : Bool) =>
      Nw vw164.drew (.cells #[] 67) fun vw180 =>
      vS177 vw180 ∧ Rn Tryd.prog (Builtin.append_ #[64, 64] 64 #[Slc.v ((⟨some ⟨vw164.drew.heap.size, 0, none⟩, 0, 0⟩ : Slc)), Slc.v x178]) vw180 Slc.v fun (x181 : Slc) vw182 =>
      vS177 vw182 ∧ Rn Tryd.prog (Builtin.append_ #[64, 64] 64 #[Slc.v x181, Slc.v r163]) vw182 Slc.v fun (x183 : Slc) vw184 =>
      vS177 vw184 ∧ Br x179 (St vw184 (⟨vw6.heap.size, 0, none⟩ : Addr) (Slc.v x183) fun vw185 =>
        St vw185 ((⟨vw6.heap.size, 0, none⟩ : Addr).add 1) (.bool true) fun vw186 =>
        Ld vw186 (⟨vw6.heap.size, 0, none⟩ : Addr) Slc.v fun (x187 : Slc) =>
        Ld vw186 ((⟨vw6.heap.size, 0, none⟩ : Addr).add 1) Value.bool fun (x188 : Bool) =>
        R (x187, x188) 0 vw186) (LdS vS177 (⟨vw4.heap.size, 0, none⟩ : Addr) Value.string fun (x189 : ByteArray) =>
        Br (x189.toList == (⟨#[87]⟩ : ByteArray).toList) (St vw184 (⟨vw6.heap.size, 0, none⟩ : Addr) (Slc.v x183) fun vw190 =>
          St vw190 ((⟨vw6.heap.size, 0, none⟩ : Addr).add 1) (.bool true) fun vw191 =>
          Ld vw191 (⟨vw6.heap.size, 0, none⟩ : Addr) Slc.v fun (x192 : Slc) =>
          Ld vw191 ((⟨vw6.heap.size, 0, none⟩ : Addr).add 1) Value.bool fun (x193 : Bool) =>
          R (x192, x193) 0 vw191) (LdS vS177 (⟨vw4.heap.size, 0, none⟩ : Addr) Value.string fun (x194 : ByteArray) =>
          St vw184 (⟨vw6.heap.size, 0, none⟩ : Addr) (Slc.v x183) fun vw195 =>
          St vw195 ((⟨vw6.heap.size, 0, none⟩ : Addr).add 1) (.bool ((x194.toList == (⟨#[87, 42]⟩ : ByteArray).toList))) fun vw196 =>
          Ld vw196 (⟨vw6.heap.size, 0, none⟩ : Addr) Slc.v fun (x197 : Slc) =>
          Ld vw196 ((⟨vw6.heap.size, 0, none⟩ : Addr).add 1) Value.bool fun (x198 : Bool) =>
          R (x197, x198) 0 vw196)))
def S38L1 (w : World) (vw4 : World) (vw5 : World) (vw6 : World) (r70 : Slc) (R : (Slc × Bool) → Int → World → Prop) (I117 : (Slc × Int) → World → Prop) (s115 : Slc × Int) (vw116 : World) : Prop :=
  Br (decide (s115.2 < ((r70.len : Nat) : Int))) (0 ≤ s115.2 ∧ s115.2 < (r70.len : Nat) ∧ Nn r70.p fun a118 =>
    Ld vw116 (a118.add ((s115.2).toNat * 2)) (Value.int .i64) fun (x119 : Int) =>
    Ld vw116 ((a118.add ((s115.2).toNat * 2)).add 1) (Value.int .i64) fun (x120 : Int) =>
    Nw vw116 (.cells #[.int .i64 0, .int .i64 0] 43) fun vw121 =>
    St vw121 (⟨vw116.heap.size, 0, none⟩ : Addr) (.int .i64 x119) fun vw122 =>
    St vw122 ((⟨vw116.heap.size, 0, none⟩ : Addr).add 1) (.int .i64 x120) fun vw123 =>
    Ld vw123 (⟨vw5.heap.size, 0, none⟩ : Addr) (Value.int .i64) fun (x124 : Int) =>
    Ld vw123 ((⟨vw5.heap.size, 0, none⟩ : Addr).add 1) (Value.int .i64) fun (x125 : Int) =>
    Ld vw123 ((⟨vw5.heap.size, 0, none⟩ : Addr).add 2) (Value.int .i64) fun (x126 : Int) =>
    Ld vw123 ((⟨vw5.heap.size, 0, none⟩ : Addr).add 3) (Value.int .i64) fun (x127 : Int) =>
    Ld vw123 ((⟨vw5.heap.size, 0, none⟩ : Addr).add 4) (Value.int .i64) fun (x128 : Int) =>
    Ld vw123 ((⟨vw5.heap.size, 0, none⟩ : Addr).add 5) (Value.int .i64) fun (x129 : Int) =>
    Ld vw123 (⟨vw116.heap.size, 0, none⟩ : Addr) (Value.int .i64) fun (x130 : Int) =>
    Ld vw123 ((⟨vw116.heap.size, 0, none⟩ : Addr).add 1) (Value.int .i64) fun (x131 : Int) =>
    C45 (x124, x125, x126, x127, x128, x129) (x130, x131) vw123 fun r132 r133 vw134 =>
      Nw vw134 (.cells #[.int .i64 0, .int .i64 0] 43) fun vw135 =>
      St vw135 (⟨vw134.heap.size, 0, none⟩ : Addr) (.int .i64 (r132.1)) fun vw136 =>
      St vw136 ((⟨vw134.heap.size, 0, none⟩ : Addr).add 1) (.int .i64 (r132.2)) fun vw137 =>
      Br (r133 != 0) (Ld vw137 (⟨w.heap.size, 0, none⟩ : Addr) Slc.v fun (x138 : Slc) =>
        Ld vw137 ((⟨w.heap.size, 0, none⟩ : Addr).add 1) Value.bool fun (x139 : Bool) =>
        St vw137 (⟨vw6.heap.size, 0, none⟩ : Addr) (Slc.v x138) fun vw140 =>
        St vw140 ((⟨vw6.heap.size, 0, none⟩ : Addr).add 1) (.bool x139) fun vw141 =>
        Ld vw141 (⟨vw6.heap.size, 0, none⟩ : Addr) Slc.v fun (x142 : Slc) =>
        Ld vw141 ((⟨vw6.heap.size, 0, none⟩ : Addr).add 1) Value.bool fun (x143 : Bool) =>
        R (x142, x143) r133 vw141) (Ld vw137 (⟨vw134.heap.size, 0, none⟩ : Addr) (Value.int .i64) fun (x144 : Int) =>
        Ld vw137 ((⟨vw134.heap.size, 0, none⟩ : Addr).add 1) (Value.int .i64) fun (x145 : Int) =>
        Nw vw137 (.cells #[.int .i64 x144, .int .i64 x145] 43) fun vw146 =>
        Rn Tryd.prog (Builtin.append_ #[164, 164] 164 #[Slc.v s115.1, Slc.v ((⟨some ⟨vw137.heap.size, 0, none⟩, 1, 1⟩ : Slc))]) vw146 Slc.v fun (x147 : Slc) vw148 =>
        I117 (x147, IntKind.i64.wrap (s115.2 + 1)) vw148)) (Nw vw116 (.cells #[.int .i64 0, .int .i64 0] 43) fun vw149 =>
    St vw149 (⟨vw116.heap.size, 0, none⟩ : Addr) (.int .i64 0) fun vw150 =>
    St vw150 ((⟨vw116.heap.size, 0, none⟩ : Addr).add 1) (.int .i64 0) fun vw151 =>
    Join (S38J1 w vw4 vw6 s115 vw116 R) fun (vJ199 : Unit → World → Prop) =>
      Ld vw151 (⟨w.heap.size, 0, none⟩ : Addr) Slc.v fun (x200 : Slc) =>
      Br (decide (((x200.len : Nat) : Int) > 0)) (Ld vw151 (⟨w.heap.size, 0, none⟩ : Addr) Slc.v fun (x201 : Slc) =>
        C101 x201 vw151 fun r202 vw203 =>
          St vw203 (⟨vw116.heap.size, 0, none⟩ : Addr) (.int .i64 (r202.1)) fun vw204 =>
          St vw204 ((⟨vw116.heap.size, 0, none⟩ : Addr).add 1) (.int .i64 (r202.2)) fun vw205 =>
          vJ199 () vw205) (vJ199 () vw151))
def S38J2 (w : World) (vw4 : World) (vw5 : World) (vw6 : World) (R : (Slc × Bool) → Int → World → Prop) (s51 : Unit) (vw52 : World) : Prop :=
  Ld vw52 (⟨vw4.heap.size, 0, none⟩ : Addr) Value.string fun (x53 : ByteArray) =>
  Ld vw52 ((⟨vw4.heap.size, 0, none⟩ : Addr).add 1) Slc.v fun (x54 : Slc) =>
  Ld vw52 ((⟨vw4.heap.size, 0, none⟩ : Addr).add 2) Value.string fun (x55 : ByteArray) =>
  C99 (x53, x54, x55) vw52 fun r56 r57 vw58 =>
    Br (r57 != 0) (Ld vw58 (⟨w.heap.size, 0, none⟩ : Addr) Slc.v fun (x63 : Slc) =>
      Ld vw58 ((⟨w.heap.size, 0, none⟩ : Addr).add 1) Value.bool fun (x64 : Bool) =>
      St vw58 (⟨vw6.heap.size, 0, none⟩ : Addr) (Slc.v x63) fun vw65 =>
      St vw65 ((⟨vw6.heap.size, 0, none⟩ : Addr).add 1) (.bool x64) fun vw66 =>
      Ld vw66 (⟨vw6.heap.size, 0, none⟩ : Addr) Slc.v fun (x67 : Slc) =>
      Ld vw66 ((⟨vw6.heap.size, 0, none⟩ : Addr).add 1) Value.bool fun (x68 : Bool) =>
      R (x67, x68) r57 vw66) (Ld vw58 (⟨vw4.heap.size, 0, none⟩ : Addr) Value.string fun (x69 : ByteArray) =>
      C100 x69 r56 vw58 fun r70 r71 vw72 =>
        Br (r71 != 0) (Ld vw72 (⟨w.heap.size, 0, none⟩ : Addr) Slc.v fun (x77 : Slc) =>
          Ld vw72 ((⟨w.heap.size, 0, none⟩ : Addr).add 1) Value.bool fun (x78 : Bool) =>
          St vw72 (⟨vw6.heap.size, 0, none⟩ : Addr) (Slc.v x77) fun vw79 =>
          St vw79 ((⟨vw6.heap.size, 0, none⟩ : Addr).add 1) (.bool x78) fun vw80 =>
          Ld vw80 (⟨vw6.heap.size, 0, none⟩ : Addr) Slc.v fun (x81 : Slc) =>
          Ld vw80 ((⟨vw6.heap.size, 0, none⟩ : Addr).add 1) Value.bool fun (x82 : Bool) =>
          R (x81, x82) r71 vw80) (Lp (σ := Slc × Int) (S38L1 w vw4 vw5 vw6 r70 R) ((⟨none, 0, 0⟩ : Slc), 0) vw72))
/-- foliant/foliantref45.Do -/
def S38 (x1 : Slc × Bool) (o2 : ByteArray × Slc × ByteArray) (m3 : Int × Int × Int × Int × Int × Int) (w : World) (R : (Slc × Bool) → Int → World → Prop) : Prop :=
  Nw w (.cells #[Slc.v x1.1, .bool x1.2] 86) fun vw4 =>
  Nw vw4 (.cells #[.string o2.1, Slc.v o2.2.1, .string o2.2.2] 63) fun vw5 =>
  Nw vw5 (.cells #[.int .i64 (m3.1), .int .i64 (m3.2.1), .int .i64 (m3.2.2.1), .int .i64 (m3.2.2.2.1), .int .i64 (m3.2.2.2.2.1), .int .i64 (m3.2.2.2.2.2)] 23) fun vw6 =>
  Nw vw6 (.cells #[Slc.v ((⟨none, 0, 0⟩ : Slc)), .bool false] 86) fun vw7 =>
  Ld vw7 (⟨vw4.heap.size, 0, none⟩ : Addr) Value.string fun (x15 : ByteArray) =>
  C98 x15 vw7 fun r16 vw17 =>
    Br (!r16) (Ld vw17 (⟨w.heap.size, 0, none⟩ : Addr) Slc.v fun (x18 : Slc) =>
      Ld vw17 ((⟨w.heap.size, 0, none⟩ : Addr).add 1) Value.bool fun (x19 : Bool) =>
      St vw17 (⟨vw6.heap.size, 0, none⟩ : Addr) (Slc.v x18) fun vw20 =>
      St vw20 ((⟨vw6.heap.size, 0, none⟩ : Addr).add 1) (.bool x19) fun vw21 =>
      Ld vw21 (⟨vw6.heap.size, 0, none⟩ : Addr) Slc.v fun (x22 : Slc) =>
      Ld vw21 ((⟨vw6.heap.size, 0, none⟩ : Addr).add 1) Value.bool fun (x23 : Bool) =>
      R (x22, x23) 8 vw21) (Ld vw17 (⟨vw4.heap.size, 0, none⟩ : Addr) Value.string fun (x33 : ByteArray) =>
      Ld vw17 ((⟨vw4.heap.size, 0, none⟩ : Addr).add 1) Slc.v fun (x34 : Slc) =>
      Ld vw17 ((⟨vw4.heap.size, 0, none⟩ : Addr).add 2) Value.string fun (x35 : ByteArray) =>
      C43 (x33, x34, x35) vw17 fun r36 vw37 =>
        Br (r36 != 0) (Ld vw37 (⟨w.heap.size, 0, none⟩ : Addr) Slc.v fun (x38 : Slc) =>
          Ld vw37 ((⟨w.heap.size, 0, none⟩ : Addr).add 1) Value.bool fun (x39 : Bool) =>
          St vw37 (⟨vw6.heap.size, 0, none⟩ : Addr) (Slc.v x38) fun vw40 =>
          St vw40 ((⟨vw6.heap.size, 0, none⟩ : Addr).add 1) (.bool x39) fun vw41 =>
          Ld vw41 (⟨vw6.heap.size, 0, none⟩ : Addr) Slc.v fun (x42 : Slc) =>
          Ld vw41 ((⟨vw6.heap.size, 0, none⟩ : Addr).add 1) Value.bool fun (x43 : Bool) =>
          R (x42, x43) r36 vw41) (Join (S38J2 w vw4 vw5 vw6 R) fun (vJ206 : Unit → World → Prop) =>
            Ld vw37 (⟨w.heap.size, 0, none⟩ : Addr) Slc.v fun (x207 : Slc) =>
            Br (((x207.len : Nat) : Int) == 0) (Ld vw37 (⟨vw4.heap.size, 0, none⟩ : Addr) Value.string fun (x208 : ByteArray) =>
              Br (!(x208.toList == (⟨#[109]⟩ : ByteArray).toList)) (Ld vw37 (⟨vw4.heap.size, 0, none⟩ : Addr) Value.string fun (x209 : ByteArray) =>
                Br (!(x209.toList == (⟨#[114, 101]⟩ : ByteArray).toList)) (Ld vw37 (⟨w.heap.size, 0, none⟩ : Addr) Slc.v fun (x210 : Slc) =>
                  Ld vw37 ((⟨w.heap.size, 0, none⟩ : Addr).add 1) Value.bool fun (x211 : Bool) =>
                  St vw37 (⟨vw6.heap.size, 0, none⟩ : Addr) (Slc.v x210) fun vw212 =>
                  St vw212 ((⟨vw6.heap.size, 0, none⟩ : Addr).add 1) (.bool x211) fun vw213 =>
                  Ld vw213 (⟨vw6.heap.size, 0, none⟩ : Addr) Slc.v fun (x214 : Slc) =>
                  Ld vw213 ((⟨vw6.heap.size, 0, none⟩ : Addr).add 1) Value.bool fun (x215 : Bool) =>
                  R (x214, x215) 29 vw213) (vJ206 () vw37)) (vJ206 () vw37)) (vJ206 () vw37)))
def pl38 : Plan := (.seq (.reg .seq) (.seq (.seq (.reg .seq) (.cond (.seq (.reg .seq) .leaf) .leaf)) (.seq (.seq (.reg .seq) (.seq (.reg .seq) (.cond (.seq (.reg .seq) .leaf) .leaf))) (.join [] [3, 4, 5, 6] (.seq (.reg .seq) (.cond (.seq (.reg .seq) .leaf) .leaf)) (.seq (.reg .seq) (.seq (.seq (.reg .seq) (.cond (.seq (.reg .seq) .leaf) .leaf)) (.seq (.reg .seq) (.seq (.seq (.reg .seq) (.cond (.seq (.reg .seq) .leaf) .leaf)) (.seq (.reg .seq) (.seq (.seq (.reg .seq) (.block (.loop [(13, (.one .slc)), (68, (.one (.int .i64)))] [3, 4, 5, 6, 66, 67] (.seq (.reg .seq) (.seq (.cond .leaf .leaf) (.seq (.block (.seq (.reg .seq) (.seq (.reg .seq) (.seq (.seq (.reg .seq) (.cond (.seq (.reg .seq) .leaf) .leaf)) (.reg .seq))))) (.reg .seq))))))) (.seq (.reg .seq) (.join [] [3, 4, 6, 13, 18] (.seq (.reg .seq) (.cond (.reg .seq) .leaf)) (.seq (.reg .seq) (.seq (.seq (.reg .seq) (.cond (.seq (.reg .seq) .leaf) .leaf)) (.seq (.reg (.held [18] (.take 1 (.take 2 (.take 4 (.take 6 (.take 7 (.eff 0 none (.eff 3 none (.eff 5 none (.take 8 (.take 9 (.take 10 (.take 11 (.take 12 (.take 13 (.take 14 (.take 15 (.take 16 (.take 17 (.eff 18 (some [19]) (.eff 19 (some []) (.take 20 .done))))))))))))))))))))))) .leaf)))))))))))))))
set_option maxRecDepth 100000 in
theorem T38 (x1 : Slc × Bool) (o2 : ByteArray × Slc × ByteArray) (m3 : Int × Int × Int × Int × Int × Int) (w : World) (R : (Slc × Bool) → Int → World → Prop) (h : S38 x1 o2 m3 w R) : C38 (x1.1, x1.2) (o2.1, o2.2.1, o2.2.2) (m3.1, m3.2.1, m3.2.2.1, m3.2.2.2.1, m3.2.2.2.2.1, m3.2.2.2.2.2) w R := by
  have e : fnT Tryd.prog ⟨FF, MAY, (fun _ _ => False)⟩ pl38 Tryd.f38 [.agg #[Slc.v x1.1, .bool x1.2], .agg #[.string o2.1, Slc.v o2.2.1, .string o2.2.2], .agg #[.int .i64 (m3.1), .int .i64 (m3.2.1), .int .i64 (m3.2.2.1), .int .i64 (m3.2.2.2.1), .int .i64 (m3.2.2.2.2.1), .int .i64 (m3.2.2.2.2.2)]] w [(.agg [.slc, .bool]), (.one (.int .i64))] (fun s w => R s.1 s.2 w) = S38 x1 o2 m3 w R := by kernel_rfl
  exact (fn_calls okF okM Tryd.func38 (by kernel_rfl) (by kernel_rfl) (e.mpr h)).mono fun _ _ ⟨s, he, hR⟩ => ⟨s.1, s.2, he, hR⟩

def S103L1 (l1 : Slc) (R : Slc → World → Prop) (I4 : (Slc × Int) → World → Prop) (s2 : Slc × Int) (vw3 : World) : Prop :=
  Br (decide (s2.2 < ((l1.len : Nat) : Int))) (0 ≤ s2.2 ∧ s2.2 < (l1.len : Nat) ∧ Nn l1.p fun a5 =>
    Ld vw3 (a5.add ((s2.2).toNat * 7)) (Value.int .i64) fun (x6 : Int) =>
    Ld vw3 ((a5.add ((s2.2).toNat * 7)).add 1) (Value.int .i64) fun (x7 : Int) =>
    Ld vw3 ((a5.add ((s2.2).toNat * 7)).add 2) (Value.int .i64) fun (x8 : Int) =>
    Ld vw3 ((a5.add ((s2.2).toNat * 7)).add 3) (Value.int .i64) fun (x9 : Int) =>
    Ld vw3 ((a5.add ((s2.2).toNat * 7)).add 4) (Value.int .i64) fun (x10 : Int) =>
    Ld vw3 ((a5.add ((s2.2).toNat * 7)).add 5) (Value.int .i64) fun (x11 : Int) =>
    Ld vw3 ((a5.add ((s2.2).toNat * 7)).add 6) (Value.int .i64) fun (x12 : Int) =>
    Nw vw3 (.cells #[.int .i64 0, .int .i64 0, .int .i64 0, .int .i64 0, .int .i64 0, .int .i64 0, .int .i64 0] 67) fun vw13 =>
    St vw13 (⟨vw3.heap.size, 0, none⟩ : Addr) (.int .i64 x6) fun vw14 =>
    St vw14 ((⟨vw3.heap.size, 0, none⟩ : Addr).add 1) (.int .i64 x7) fun vw15 =>
    St vw15 ((⟨vw3.heap.size, 0, none⟩ : Addr).add 2) (.int .i64 x8) fun vw16 =>
    St vw16 ((⟨vw3.heap.size, 0, none⟩ : Addr).add 3) (.int .i64 x9) fun vw17 =>
    St vw17 ((⟨vw3.heap.size, 0, none⟩ : Addr).add 4) (.int .i64 x10) fun vw18 =>
    St vw18 ((⟨vw3.heap.size, 0, none⟩ : Addr).add 5) (.int .i64 x11) fun vw19 =>
    St vw19 ((⟨vw3.heap.size, 0, none⟩ : Addr).add 6) (.int .i64 x12) fun vw20 =>
    Ld vw20 (⟨vw3.heap.size, 0, none⟩ : Addr) (Value.int .i64) fun (x29 : Int) =>
    Br (x29 == 3) (Ld vw20 ((⟨vw3.heap.size, 0, none⟩ : Addr).add 1) (Value.int .i64) fun (x30 : Int) =>
      Ld vw20 (((⟨vw3.heap.size, 0, none⟩ : Addr).add 1).add 1) (Value.int .i64) fun (x31 : Int) =>
      Ld vw20 ((⟨vw3.heap.size, 0, none⟩ : Addr).add 3) (Value.int .i64) fun (x32 : Int) =>
      Ld vw20 (((⟨vw3.heap.size, 0, none⟩ : Addr).add 3).add 1) (Value.int .i64) fun (x33 : Int) =>
      Nw vw20 (.cells #[.int .i64 x30, .int .i64 x31, .int .i64 x32, .int .i64 x33] 43) fun vw34 =>
      Rn Tryd.prog (Builtin.append_ #[164, 164] 164 #[Slc.v s2.1, Slc.v ((⟨some ⟨vw20.heap.size, 0, none⟩, 2, 2⟩ : Slc))]) vw34 Slc.v fun (x35 : Slc) vw36 =>
      Ld vw36 (⟨vw3.heap.size, 0, none⟩ : Addr) (Value.int .i64) fun (x37 : Int) =>
      Br (x37 == 1) (Ld vw36 ((⟨vw3.heap.size, 0, none⟩ : Addr).add 5) (Value.int .i64) fun (x38 : Int) =>
        Ld vw36 (((⟨vw3.heap.size, 0, none⟩ : Addr).add 5).add 1) (Value.int .i64) fun (x39 : Int) =>
        Nw vw36 (.cells #[.int .i64 x38, .int .i64 x39] 43) fun vw40 =>
        Rn Tryd.prog (Builtin.append_ #[164, 164] 164 #[Slc.v x35, Slc.v ((⟨some ⟨vw36.heap.size, 0, none⟩, 1, 1⟩ : Slc))]) vw40 Slc.v fun (x41 : Slc) vw42 =>
        I4 (x41, IntKind.i64.wrap (s2.2 + 1)) vw42) (Ld vw36 (⟨vw3.heap.size, 0, none⟩ : Addr) (Value.int .i64) fun (x43 : Int) =>
        Br (x43 == 2) (Ld vw36 ((⟨vw3.heap.size, 0, none⟩ : Addr).add 5) (Value.int .i64) fun (x44 : Int) =>
          Ld vw36 (((⟨vw3.heap.size, 0, none⟩ : Addr).add 5).add 1) (Value.int .i64) fun (x45 : Int) =>
          Nw vw36 (.cells #[.int .i64 x44, .int .i64 x45] 43) fun vw46 =>
          Rn Tryd.prog (Builtin.append_ #[164, 164] 164 #[Slc.v x35, Slc.v ((⟨some ⟨vw36.heap.size, 0, none⟩, 1, 1⟩ : Slc))]) vw46 Slc.v fun (x47 : Slc) vw48 =>
          I4 (x47, IntKind.i64.wrap (s2.2 + 1)) vw48) (Ld vw36 (⟨vw3.heap.size, 0, none⟩ : Addr) (Value.int .i64) fun (x49 : Int) =>
          Br (x49 == 3) (Ld vw36 ((⟨vw3.heap.size, 0, none⟩ : Addr).add 5) (Value.int .i64) fun (x50 : Int) =>
            Ld vw36 (((⟨vw3.heap.size, 0, none⟩ : Addr).add 5).add 1) (Value.int .i64) fun (x51 : Int) =>
            Nw vw36 (.cells #[.int .i64 x50, .int .i64 x51] 43) fun vw52 =>
            Rn Tryd.prog (Builtin.append_ #[164, 164] 164 #[Slc.v x35, Slc.v ((⟨some ⟨vw36.heap.size, 0, none⟩, 1, 1⟩ : Slc))]) vw52 Slc.v fun (x53 : Slc) vw54 =>
            I4 (x53, IntKind.i64.wrap (s2.2 + 1)) vw54) (I4 (x35, IntKind.i64.wrap (s2.2 + 1)) vw36)))) (Ld vw20 (⟨vw3.heap.size, 0, none⟩ : Addr) (Value.int .i64) fun (x55 : Int) =>
      Br (x55 == 1) (Ld vw20 ((⟨vw3.heap.size, 0, none⟩ : Addr).add 5) (Value.int .i64) fun (x56 : Int) =>
        Ld vw20 (((⟨vw3.heap.size, 0, none⟩ : Addr).add 5).add 1) (Value.int .i64) fun (x57 : Int) =>
        Nw vw20 (.cells #[.int .i64 x56, .int .i64 x57] 43) fun vw58 =>
        Rn Tryd.prog (Builtin.append_ #[164, 164] 164 #[Slc.v s2.1, Slc.v ((⟨some ⟨vw20.heap.size, 0, none⟩, 1, 1⟩ : Slc))]) vw58 Slc.v fun (x59 : Slc) vw60 =>
        I4 (x59, IntKind.i64.wrap (s2.2 + 1)) vw60) (Ld vw20 (⟨vw3.heap.size, 0, none⟩ : Addr) (Value.int .i64) fun (x61 : Int) =>
        Br (x61 == 2) (Ld vw20 ((⟨vw3.heap.size, 0, none⟩ : Addr).add 5) (Value.int .i64) fun (x62 : Int) =>
          Ld vw20 (((⟨vw3.heap.size, 0, none⟩ : Addr).add 5).add 1) (Value.int .i64) fun (x63 : Int) =>
          Nw vw20 (.cells #[.int .i64 x62, .int .i64 x63] 43) fun vw64 =>
          Rn Tryd.prog (Builtin.append_ #[164, 164] 164 #[Slc.v s2.1, Slc.v ((⟨some ⟨vw20.heap.size, 0, none⟩, 1, 1⟩ : Slc))]) vw64 Slc.v fun (x65 : Slc) vw66 =>
          I4 (x65, IntKind.i64.wrap (s2.2 + 1)) vw66) (Ld vw20 (⟨vw3.heap.size, 0, none⟩ : Addr) (Value.int .i64) fun (x67 : Int) =>
          Br (x67 == 3) (Ld vw20 ((⟨vw3.heap.size, 0, none⟩ : Addr).add 5) (Value.int .i64) fun (x68 : Int) =>
            Ld vw20 (((⟨vw3.heap.size, 0, none⟩ : Addr).add 5).add 1) (Value.int .i64) fun (x69 : Int) =>
            Nw vw20 (.cells #[.int .i64 x68, .int .i64 x69] 43) fun vw70 =>
            Rn Tryd.prog (Builtin.append_ #[164, 164] 164 #[Slc.v s2.1, Slc.v ((⟨some ⟨vw20.heap.size, 0, none⟩, 1, 1⟩ : Slc))]) vw70 Slc.v fun (x71 : Slc) vw72 =>
            I4 (x71, IntKind.i64.wrap (s2.2 + 1)) vw72) (I4 (s2.1, IntKind.i64.wrap (s2.2 + 1)) vw20))))) (R s2.1 vw3)
/-- foliant/foliantref45.points -/
def S103 (l1 : Slc) (w : World) (R : Slc → World → Prop) : Prop :=
  Lp (σ := Slc × Int) (S103L1 l1 R) ((⟨none, 0, 0⟩ : Slc), 0) w
def pl103 : Plan := (.seq (.reg .seq) (.seq (.reg .seq) (.seq (.seq (.reg .seq) (.block (.loop [(3, (.one .slc)), (8, (.one (.int .i64)))] [6, 7] (.seq (.reg .seq) (.seq (.cond .leaf .leaf) (.seq (.block (.seq (.reg .seq) (.seq (.seq (.reg .seq) (.cond (.reg .seq) .leaf)) (.seq (.reg .seq) (.cond (.reg .seq) .leaf))))) (.reg .seq))))))) (.seq (.reg .seq) .leaf))))
set_option maxRecDepth 100000 in
theorem T103 (l1 : Slc) (w : World) (R : Slc → World → Prop) (h : S103 l1 w R) : C103 l1 w R := by
  have e : fnT Tryd.prog ⟨FF, MAY, (fun _ _ => False)⟩ pl103 Tryd.f103 [Slc.v l1] w [(.one .slc)] (fun s w => R s w) = S103 l1 w R := by kernel_rfl
  exact (fn_calls okF okM Tryd.func103 (by kernel_rfl) (by kernel_rfl) (e.mpr h)).mono fun _ _ ⟨s, he, hR⟩ => ⟨s, he, hR⟩

def S39L1 (w : World) (r3 : Slc) (s36 : Addr) (R : (Int × Int × Int × Int) → Bool → World → Prop) (I40 : Int → World → Prop) (s38 : Int) (vw39 : World) : Prop :=
  Br (decide (s38 < ((r3.len : Nat) : Int))) (0 ≤ s38 ∧ s38 < (r3.len : Nat) ∧ Nn r3.p fun a41 =>
    Ld vw39 (a41.add ((s38).toNat * 2)) (Value.int .i64) fun (x42 : Int) =>
    Ld vw39 ((a41.add ((s38).toNat * 2)).add 1) (Value.int .i64) fun (x43 : Int) =>
    Nw vw39 (.cells #[.int .i64 0, .int .i64 0] 43) fun vw44 =>
    St vw44 (⟨vw39.heap.size, 0, none⟩ : Addr) (.int .i64 x42) fun vw45 =>
    St vw45 ((⟨vw39.heap.size, 0, none⟩ : Addr).add 1) (.int .i64 x43) fun vw46 =>
    Ld vw46 s36 (Value.int .i64) fun (x47 : Int) =>
    Ld vw46 (⟨vw39.heap.size, 0, none⟩ : Addr) (Value.int .i64) fun (x48 : Int) =>
    Ld vw46 (s36.add 1) (Value.int .i64) fun (x49 : Int) =>
    Ld vw46 ((⟨vw39.heap.size, 0, none⟩ : Addr).add 1) (Value.int .i64) fun (x50 : Int) =>
    Ld vw46 (s36.add 2) (Value.int .i64) fun (x51 : Int) =>
    Ld vw46 (⟨vw39.heap.size, 0, none⟩ : Addr) (Value.int .i64) fun (x52 : Int) =>
    Ld vw46 (s36.add 3) (Value.int .i64) fun (x53 : Int) =>
    Ld vw46 ((⟨vw39.heap.size, 0, none⟩ : Addr).add 1) (Value.int .i64) fun (x54 : Int) =>
    St vw46 s36 (.int .i64 (if x48 < x47 then x48 else x47)) fun vw55 =>
    St vw55 (s36.add 1) (.int .i64 (if x50 < x49 then x50 else x49)) fun vw56 =>
    St vw56 (s36.add 2) (.int .i64 (if x52 > x51 then x52 else x51)) fun vw57 =>
    St vw57 (s36.add 3) (.int .i64 (if x54 > x53 then x54 else x53)) fun vw58 =>
    I40 (IntKind.i64.wrap (s38 + 1)) vw58) (Ld vw39 s36 (Value.int .i64) fun (x59 : Int) =>
    Ld vw39 (s36.add 1) (Value.int .i64) fun (x60 : Int) =>
    Ld vw39 (s36.add 2) (Value.int .i64) fun (x61 : Int) =>
    Ld vw39 (s36.add 3) (Value.int .i64) fun (x62 : Int) =>
    St vw39 (⟨w.heap.size, 0, none⟩ : Addr) (.int .i64 x59) fun vw63 =>
    St vw63 ((⟨w.heap.size, 0, none⟩ : Addr).add 1) (.int .i64 x60) fun vw64 =>
    St vw64 ((⟨w.heap.size, 0, none⟩ : Addr).add 2) (.int .i64 x61) fun vw65 =>
    St vw65 ((⟨w.heap.size, 0, none⟩ : Addr).add 3) (.int .i64 x62) fun vw66 =>
    Ld vw66 (⟨w.heap.size, 0, none⟩ : Addr) (Value.int .i64) fun (x67 : Int) =>
    Ld vw66 ((⟨w.heap.size, 0, none⟩ : Addr).add 1) (Value.int .i64) fun (x68 : Int) =>
    Ld vw66 ((⟨w.heap.size, 0, none⟩ : Addr).add 2) (Value.int .i64) fun (x69 : Int) =>
    Ld vw66 ((⟨w.heap.size, 0, none⟩ : Addr).add 3) (Value.int .i64) fun (x70 : Int) =>
    R (x67, x68, x69, x70) true vw66)
def S39J1 (w : World) (r3 : Slc) (R : (Int × Int × Int × Int) → Bool → World → Prop) (s36 : Addr) (vw37 : World) : Prop :=
  Lp (σ := Int) (S39L1 w r3 s36 R) 0 vw37
/-- foliant/foliantref45.Box -/
def S39 (l1 : Slc) (w : World) (R : (Int × Int × Int × Int) → Bool → World → Prop) : Prop :=
  Nw w (.cells #[.int .i64 0, .int .i64 0, .int .i64 0, .int .i64 0] 72) fun vw2 =>
  C103 l1 vw2 fun r3 vw4 =>
    Br (((r3.len : Nat) : Int) == 0) (St vw4 (⟨w.heap.size, 0, none⟩ : Addr) (.int .i64 0) fun vw9 =>
      St vw9 ((⟨w.heap.size, 0, none⟩ : Addr).add 1) (.int .i64 0) fun vw10 =>
      St vw10 ((⟨w.heap.size, 0, none⟩ : Addr).add 2) (.int .i64 0) fun vw11 =>
      St vw11 ((⟨w.heap.size, 0, none⟩ : Addr).add 3) (.int .i64 0) fun vw12 =>
      Ld vw12 (⟨w.heap.size, 0, none⟩ : Addr) (Value.int .i64) fun (x13 : Int) =>
      Ld vw12 ((⟨w.heap.size, 0, none⟩ : Addr).add 1) (Value.int .i64) fun (x14 : Int) =>
      Ld vw12 ((⟨w.heap.size, 0, none⟩ : Addr).add 2) (Value.int .i64) fun (x15 : Int) =>
      Ld vw12 ((⟨w.heap.size, 0, none⟩ : Addr).add 3) (Value.int .i64) fun (x16 : Int) =>
      R (x13, x14, x15, x16) false vw12) (Join (S39J1 w r3 R) fun (vJ71 : Addr → World → Prop) =>
        ∃ vS72 : World → Prop, vS72 vw4.drew ∧ 0 ≤ (0 : Int) ∧ (0 : Int) < (r3.len : Nat) ∧ Nn r3.p fun a73 =>
        LdS vS72 (a73.add (((0 : Int)).toNat * 2)) (Value.int .i64) fun (x74 : Int) =>
        0 ≤ (0 : Int) ∧ (0 : Int) < (r3.len : Nat) ∧ Nn r3.p fun a75 =>
        LdS vS72 ((a75.add (((0 : Int)).toNat * 2)).add 1) (Value.int .i64) fun (x76 : Int) =>
        0 ≤ (0 : Int) ∧ (0 : Int) < (r3.len : Nat) ∧ Nn r3.p fun a77 =>
        LdS vS72 (a77.add (((0 : Int)).toNat * 2)) (Value.int .i64) fun (x78 : Int) =>
        0 ≤ (0 : Int) ∧ (0 : Int) < (r3.len : Nat) ∧ Nn r3.p fun a79 =>
        LdS vS72 ((a79.add (((0 : Int)).toNat * 2)).add 1) (Value.int .i64) fun (x80 : Int) =>
        (Nw vw4.drew (.cells #[.int .i64 0, .int .i64 0, .int .i64 0, .int .i64 0] 72) fun vw81 =>
          St vw81 (⟨vw4.drew.heap.size, 0, none⟩ : Addr) (.int .i64 x74) fun vw82 =>
          St vw82 ((⟨vw4.drew.heap.size, 0, none⟩ : Addr).add 1) (.int .i64 x76) fun vw83 =>
          St vw83 ((⟨vw4.drew.heap.size, 0, none⟩ : Addr).add 2) (.int .i64 x78) fun vw84 =>
          St vw84 ((⟨vw4.drew.heap.size, 0, none⟩ : Addr).add 3) (.int .i64 x80) fun vw85 =>
          vJ71 (⟨vw4.drew.heap.size, 0, none⟩ : Addr) vw85) ∧
        (Nw vw4.drew (.cells #[.int .i64 0, .int .i64 0, .int .i64 0, .int .i64 0] 72) fun vw86 =>
          vS72 vw86 ∧ St vw86 (⟨vw4.drew.heap.size, 0, none⟩ : Addr) (.int .i64 x74) fun vw87 =>
          St vw87 ((⟨vw4.drew.heap.size, 0, none⟩ : Addr).add 1) (.int .i64 x76) fun vw88 =>
          St vw88 ((⟨vw4.drew.heap.size, 0, none⟩ : Addr).add 2) (.int .i64 x78) fun vw89 =>
          St vw89 ((⟨vw4.drew.heap.size, 0, none⟩ : Addr).add 3) (.int .i64 x80) fun vw90 =>
          vJ71 (⟨vw4.drew.heap.size, 0, none⟩ : Addr) vw90))
def pl39 : Plan := (.seq (.reg .seq) (.seq (.reg .seq) (.seq (.seq (.reg .seq) (.cond (.seq (.reg .seq) .leaf) .leaf)) (.join [(5, (.one .addr))] [2, 4] (.reg (.held [16] (.take 0 (.take 1 (.take 2 (.take 3 (.take 4 (.take 5 (.take 6 (.take 7 (.take 8 (.take 9 (.take 10 (.take 11 (.take 12 (.take 13 (.take 14 (.take 15 (.effs 16 (some [17]) (.eff 17 (some [18]) (.eff 18 (some []) .done)) (.eff 17 none (.eff 16 (some [18]) (.eff 18 (some []) .done)))))))))))))))))))))) (.seq (.seq (.reg .seq) (.block (.loop [(33, (.one (.int .i64)))] [2, 5, 31, 32] (.seq (.reg .seq) (.seq (.cond .leaf .leaf) (.seq (.block (.seq (.reg .seq) (.reg .seq))) (.reg .seq))))))) (.seq (.reg .seq) .leaf))))))
set_option maxRecDepth 100000 in
theorem T39 (l1 : Slc) (w : World) (R : (Int × Int × Int × Int) → Bool → World → Prop) (h : S39 l1 w R) : C39 l1 w R := by
  have e : fnT Tryd.prog ⟨FF, MAY, (fun _ _ => False)⟩ pl39 Tryd.f39 [Slc.v l1] w [(.agg [(.int .i64), (.int .i64), (.int .i64), (.int .i64)]), (.one .bool)] (fun s w => R s.1 s.2 w) = S39 l1 w R := by kernel_rfl
  exact (fn_calls okF okM Tryd.func39 (by kernel_rfl) (by kernel_rfl) (e.mpr h)).mono fun _ _ ⟨s, he, hR⟩ => ⟨s.1, s.2, he, hR⟩

end Go.Proofs.YtjbeembbnkmpeaaDoor
