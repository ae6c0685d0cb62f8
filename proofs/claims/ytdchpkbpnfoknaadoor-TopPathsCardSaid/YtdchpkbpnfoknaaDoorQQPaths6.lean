/- The formulas of 13 functions of the program, written by program (gen.py); the kernel checks each. No condition. -/
import Derived.Test.YtdchpkbpnfoknaaDoorQQPaths2
import Derived.Test.YtdchpkbpnfoknaaDoorQQPaths3
import Derived.Test.YtdchpkbpnfoknaaDoorQQPaths4
import Derived.Test.YtdchpkbpnfoknaaDoorQQPaths5
import Derived.RangeFuncNested
import Derived.RangeFuncBound
import Derived.RangeFuncCalls
import Derived.RangeFuncLeaves
import Derived.RangeFuncBox
import Derived.WalkKit
import Derived.OwnWalkIn
import Derived.TacticsInMore
import Derived.LoopNIn
import Derived.LoopIn
import Derived.Sort.LoopGhostIn
namespace Go.Proofs.YtdchpkbpnfoknaaDoor
open Sh
set_option linter.unusedVariables false
set_option maxRecDepth 100000

def C54 (vok1 : Bool) (ve2 : Int) (w : World) (R : World → Prop) (PR : Value → World → Prop) : Prop :=
  Calls Tryd.prog 54 #[.bool vok1, .int .i64 ve2] w fun e w' => (e = .returned (.tuple #[]) ∧ R w') ∨ ∃ v, e = .panicked (onePanic v) ∧ PR v w'
theorem C54.mono {vok1 : Bool} {ve2 : Int} {w : World} {R R' : World → Prop} {PR PR' : Value → World → Prop} (h : C54 vok1 ve2 w R PR) (hr : ∀ w', R w' → R' w') (hp : ∀ v w', PR v w' → PR' v w') : C54 vok1 ve2 w R' PR' :=
  Calls.mono h fun _ _ he => he.elim (fun ⟨he, hR⟩ => .inl ⟨he, hr _ hR⟩) fun ⟨v, he, hP⟩ => .inr ⟨v, he, hp _ _ hP⟩
def C55 (kind1 : Int) (w : World) (R : (Bool × Bool × Bool × Bool × Bool) → Bool → World → Prop) : Prop :=
  Calls Tryd.prog 55 #[.int .i64 kind1] w fun e w' => ∃ r0 : Bool × Bool × Bool × Bool × Bool, ∃ r1 : Bool, e = .returned (.tuple #[.agg #[.bool r0.1, .bool r0.2.1, .bool r0.2.2.1, .bool r0.2.2.2.1, .bool r0.2.2.2.2], .bool r1]) ∧ R r0 r1 w'
theorem C55.mono {kind1 : Int} {w : World} {R R' : (Bool × Bool × Bool × Bool × Bool) → Bool → World → Prop} (h : C55 kind1 w R) (hr : ∀ r0 r1 w', R r0 r1 w' → R' r0 r1 w') : C55 kind1 w R' :=
  Calls.mono h fun _ _ ⟨r0, r1, he, hR⟩ => ⟨r0, r1, he, hr _ _ _ hR⟩
def C71 (n1 : Int) (least2 : Int) (most3 : Int) (w : World) (R : Bool → World → Prop) : Prop :=
  Calls Tryd.prog 71 #[.int .i64 n1, .int .i64 least2, .int .i64 most3] w fun e w' => ∃ r0 : Bool, e = .returned (.bool r0) ∧ R r0 w'
theorem C71.mono {n1 : Int} {least2 : Int} {most3 : Int} {w : World} {R R' : Bool → World → Prop} (h : C71 n1 least2 most3 w R) (hr : ∀ r0 w', R r0 w' → R' r0 w') : C71 n1 least2 most3 w R' :=
  Calls.mono h fun _ _ ⟨r0, he, hR⟩ => ⟨r0, he, hr _ _ hR⟩
def C56 (o1 : Int × Int × Int × ByteArray × Slc × Slc) (w : World) (R : Bool → World → Prop) : Prop :=
  Calls Tryd.prog 56 #[.agg #[.int .i64 (o1.1), .int .i64 (o1.2.1), .int .i64 (o1.2.2.1), .string o1.2.2.2.1, Slc.v o1.2.2.2.2.1, Slc.v o1.2.2.2.2.2]] w fun e w' => ∃ r0 : Bool, e = .returned (.bool r0) ∧ R r0 w'
theorem C56.mono {o1 : Int × Int × Int × ByteArray × Slc × Slc} {w : World} {R R' : Bool → World → Prop} (h : C56 o1 w R) (hr : ∀ r0 w', R r0 w' → R' r0 w') : C56 o1 w R' :=
  Calls.mono h fun _ _ ⟨r0, he, hR⟩ => ⟨r0, he, hr _ _ hR⟩
def C57 (o1 : Int × Int × Int × ByteArray × Slc × Slc) (w : World) (R : Bool → World → Prop) : Prop :=
  Calls Tryd.prog 57 #[.agg #[.int .i64 (o1.1), .int .i64 (o1.2.1), .int .i64 (o1.2.2.1), .string o1.2.2.2.1, Slc.v o1.2.2.2.2.1, Slc.v o1.2.2.2.2.2]] w fun e w' => ∃ r0 : Bool, e = .returned (.bool r0) ∧ R r0 w'
theorem C57.mono {o1 : Int × Int × Int × ByteArray × Slc × Slc} {w : World} {R R' : Bool → World → Prop} (h : C57 o1 w R) (hr : ∀ r0 w', R r0 w' → R' r0 w') : C57 o1 w R' :=
  Calls.mono h fun _ _ ⟨r0, he, hR⟩ => ⟨r0, he, hr _ _ hR⟩
def C72 (s1 : ByteArray) (c2 : Int) (w : World) (R : Int → World → Prop) : Prop :=
  Calls Tryd.prog 72 #[.string s1, .int .u8 c2] w fun e w' => ∃ r0 : Int, e = .returned (.int .i64 r0) ∧ R r0 w'
theorem C72.mono {s1 : ByteArray} {c2 : Int} {w : World} {R R' : Int → World → Prop} (h : C72 s1 c2 w R) (hr : ∀ r0 w', R r0 w' → R' r0 w') : C72 s1 c2 w R' :=
  Calls.mono h fun _ _ ⟨r0, he, hR⟩ => ⟨r0, he, hr _ _ hR⟩
def C58 (s1 : ByteArray) (w : World) (R : Bool → World → Prop) : Prop :=
  Calls Tryd.prog 58 #[.string s1] w fun e w' => ∃ r0 : Bool, e = .returned (.bool r0) ∧ R r0 w'
theorem C58.mono {s1 : ByteArray} {w : World} {R R' : Bool → World → Prop} (h : C58 s1 w R) (hr : ∀ r0 w', R r0 w' → R' r0 w') : C58 s1 w R' :=
  Calls.mono h fun _ _ ⟨r0, he, hR⟩ => ⟨r0, he, hr _ _ hR⟩
def C59 (o1 : Int × Int × Int × ByteArray × Slc × Slc) (w : World) (R : Bool → World → Prop) : Prop :=
  Calls Tryd.prog 59 #[.agg #[.int .i64 (o1.1), .int .i64 (o1.2.1), .int .i64 (o1.2.2.1), .string o1.2.2.2.1, Slc.v o1.2.2.2.2.1, Slc.v o1.2.2.2.2.2]] w fun e w' => ∃ r0 : Bool, e = .returned (.bool r0) ∧ R r0 w'
theorem C59.mono {o1 : Int × Int × Int × ByteArray × Slc × Slc} {w : World} {R R' : Bool → World → Prop} (h : C59 o1 w R) (hr : ∀ r0 w', R r0 w' → R' r0 w') : C59 o1 w R' :=
  Calls.mono h fun _ _ ⟨r0, he, hR⟩ => ⟨r0, he, hr _ _ hR⟩
def C40 (o1 : Int × Int × Int × ByteArray × Slc × Slc) (deep2 : Int) (w : World) (R : World → Prop) (PR : Value → World → Prop) : Prop :=
  Calls Tryd.prog 40 #[.agg #[.int .i64 (o1.1), .int .i64 (o1.2.1), .int .i64 (o1.2.2.1), .string o1.2.2.2.1, Slc.v o1.2.2.2.2.1, Slc.v o1.2.2.2.2.2], .int .i64 deep2] w fun e w' => (e = .returned (.tuple #[]) ∧ R w') ∨ ∃ v, e = .panicked (onePanic v) ∧ PR v w'
theorem C40.mono {o1 : Int × Int × Int × ByteArray × Slc × Slc} {deep2 : Int} {w : World} {R R' : World → Prop} {PR PR' : Value → World → Prop} (h : C40 o1 deep2 w R PR) (hr : ∀ w', R w' → R' w') (hp : ∀ v w', PR v w' → PR' v w') : C40 o1 deep2 w R' PR' :=
  Calls.mono h fun _ _ he => he.elim (fun ⟨he, hR⟩ => .inl ⟨he, hr _ hR⟩) fun ⟨v, he, hP⟩ => .inr ⟨v, he, hp _ _ hP⟩
def C39 (c1 : Addr) (w : World) (R : World → Prop) (PR : Value → World → Prop) : Prop :=
  Calls Tryd.prog 39 #[.pointer (some c1)] w fun e w' => (e = .returned (.tuple #[]) ∧ R w') ∨ ∃ v, e = .panicked (onePanic v) ∧ PR v w'
theorem C39.mono {c1 : Addr} {w : World} {R R' : World → Prop} {PR PR' : Value → World → Prop} (h : C39 c1 w R PR) (hr : ∀ w', R w' → R' w') (hp : ∀ v w', PR v w' → PR' v w') : C39 c1 w R' PR' :=
  Calls.mono h fun _ _ he => he.elim (fun ⟨he, hR⟩ => .inl ⟨he, hr _ hR⟩) fun ⟨v, he, hP⟩ => .inr ⟨v, he, hp _ _ hP⟩
def CD53 (c1 : Addr) (u : Option Value) (w : World) (R : World → Prop) : Prop := CallD Tryd.prog 53 #[.pointer (some c1)] u w R
theorem CD53.mono {c1 : Addr} {u : Option Value} {w : World} {R R' : World → Prop} (h : CD53 c1 u w R) (hr : ∀ w', R w' → R' w') : CD53 c1 u w R' :=
  CallsD.mono h fun _ _ _ ⟨h1, h2, h3⟩ => ⟨h1, h2, hr _ h3⟩
def C38 (vdo1 : Value) (w : World) (R : Int → World → Prop) : Prop :=
  Calls Tryd.prog 38 #[vdo1] w fun e w' => ∃ r0 : Int, e = .returned (.int .i64 r0) ∧ R r0 w'
theorem C38.mono {vdo1 : Value} {w : World} {R R' : Int → World → Prop} (h : C38 vdo1 w R) (hr : ∀ r0 w', R r0 w' → R' r0 w') : C38 vdo1 w R' :=
  Calls.mono h fun _ _ ⟨r0, he, hR⟩ => ⟨r0, he, hr _ _ hR⟩
def C17 (o1 : Int × Int × Int × ByteArray × Slc × Slc) (w : World) (R : Int → World → Prop) (PR : Value → World → Prop) : Prop :=
  Calls Tryd.prog 17 #[.agg #[.int .i64 (o1.1), .int .i64 (o1.2.1), .int .i64 (o1.2.2.1), .string o1.2.2.2.1, Slc.v o1.2.2.2.2.1, Slc.v o1.2.2.2.2.2]] w fun e w' => (∃ r0 : Int, e = .returned (.int .i64 r0) ∧ R r0 w') ∨ ∃ v, e = .panicked (onePanic v) ∧ PR v w'
theorem C17.mono {o1 : Int × Int × Int × ByteArray × Slc × Slc} {w : World} {R R' : Int → World → Prop} {PR PR' : Value → World → Prop} (h : C17 o1 w R PR) (hr : ∀ r0 w', R r0 w' → R' r0 w') (hp : ∀ v w', PR v w' → PR' v w') : C17 o1 w R' PR' :=
  Calls.mono h fun _ _ he => he.elim (fun ⟨r0, he, hR⟩ => .inl ⟨r0, he, hr _ _ hR⟩) fun ⟨v, he, hP⟩ => .inr ⟨v, he, hp _ _ hP⟩

/-- foliant/value.must -/
def S54 (vok1 : Bool) (ve2 : Int) (w : World) (R : World → Prop) (PR : Value → World → Prop) : Prop :=
  Br (!vok1) (PR (.iface 116 (.agg #[.int .i64 ve2])) w) (R w)
def pl54 : Plan := (.seq (.reg .seq) (.cond (.reg .seq) .leaf))
set_option maxRecDepth 100000 in
theorem T54 (vok1 : Bool) (ve2 : Int) (w : World) (R : World → Prop) (PR : Value → World → Prop) (h : S54 vok1 ve2 w R PR) : C54 vok1 ve2 w R PR := by
  have e : fnT Tryd.prog ⟨FF, MAY, PR⟩ pl54 Tryd.f54 [.bool vok1, .int .i64 ve2] w [] (fun _ w => R w) = S54 vok1 ve2 w R PR := by kernel_rfl
  exact (fn_callsP okF okM Tryd.func54 (by kernel_rfl) (by kernel_rfl) (e.mpr h)).mono fun _ _ he => he.elim (fun ⟨_, he, hR⟩ => .inl ⟨he, hR⟩) .inr

def S55J1 (w : World) (kind1 : Int) (R : (Bool × Bool × Bool × Bool × Bool) → Bool → World → Prop) (s25 : Bool) (vw26 : World) : Prop :=
  Br s25 (St vw26 (⟨w.heap.size, 0, none⟩ : Addr) (.bool false) fun vw27 =>
    St vw27 ((⟨w.heap.size, 0, none⟩ : Addr).add 1) (.bool false) fun vw28 =>
    St vw28 ((⟨w.heap.size, 0, none⟩ : Addr).add 2) (.bool true) fun vw29 =>
    St vw29 ((⟨w.heap.size, 0, none⟩ : Addr).add 3) (.bool false) fun vw30 =>
    St vw30 ((⟨w.heap.size, 0, none⟩ : Addr).add 4) (.bool false) fun vw31 =>
    Ld vw31 (⟨w.heap.size, 0, none⟩ : Addr) Value.bool fun (x32 : Bool) =>
    Ld vw31 ((⟨w.heap.size, 0, none⟩ : Addr).add 1) Value.bool fun (x33 : Bool) =>
    Ld vw31 ((⟨w.heap.size, 0, none⟩ : Addr).add 2) Value.bool fun (x34 : Bool) =>
    Ld vw31 ((⟨w.heap.size, 0, none⟩ : Addr).add 3) Value.bool fun (x35 : Bool) =>
    Ld vw31 ((⟨w.heap.size, 0, none⟩ : Addr).add 4) Value.bool fun (x36 : Bool) =>
    R (x32, x33, x34, x35, x36) true vw31) (Br (kind1 == 6) (St vw26 (⟨w.heap.size, 0, none⟩ : Addr) (.bool false) fun vw37 =>
      St vw37 ((⟨w.heap.size, 0, none⟩ : Addr).add 1) (.bool false) fun vw38 =>
      St vw38 ((⟨w.heap.size, 0, none⟩ : Addr).add 2) (.bool false) fun vw39 =>
      St vw39 ((⟨w.heap.size, 0, none⟩ : Addr).add 3) (.bool false) fun vw40 =>
      St vw40 ((⟨w.heap.size, 0, none⟩ : Addr).add 4) (.bool true) fun vw41 =>
      Ld vw41 (⟨w.heap.size, 0, none⟩ : Addr) Value.bool fun (x42 : Bool) =>
      Ld vw41 ((⟨w.heap.size, 0, none⟩ : Addr).add 1) Value.bool fun (x43 : Bool) =>
      Ld vw41 ((⟨w.heap.size, 0, none⟩ : Addr).add 2) Value.bool fun (x44 : Bool) =>
      Ld vw41 ((⟨w.heap.size, 0, none⟩ : Addr).add 3) Value.bool fun (x45 : Bool) =>
      Ld vw41 ((⟨w.heap.size, 0, none⟩ : Addr).add 4) Value.bool fun (x46 : Bool) =>
      R (x42, x43, x44, x45, x46) true vw41) (Br (kind1 == 7) (St vw26 (⟨w.heap.size, 0, none⟩ : Addr) (.bool false) fun vw47 =>
        St vw47 ((⟨w.heap.size, 0, none⟩ : Addr).add 1) (.bool false) fun vw48 =>
        St vw48 ((⟨w.heap.size, 0, none⟩ : Addr).add 2) (.bool false) fun vw49 =>
        St vw49 ((⟨w.heap.size, 0, none⟩ : Addr).add 3) (.bool true) fun vw50 =>
        St vw50 ((⟨w.heap.size, 0, none⟩ : Addr).add 4) (.bool true) fun vw51 =>
        Ld vw51 (⟨w.heap.size, 0, none⟩ : Addr) Value.bool fun (x52 : Bool) =>
        Ld vw51 ((⟨w.heap.size, 0, none⟩ : Addr).add 1) Value.bool fun (x53 : Bool) =>
        Ld vw51 ((⟨w.heap.size, 0, none⟩ : Addr).add 2) Value.bool fun (x54 : Bool) =>
        Ld vw51 ((⟨w.heap.size, 0, none⟩ : Addr).add 3) Value.bool fun (x55 : Bool) =>
        Ld vw51 ((⟨w.heap.size, 0, none⟩ : Addr).add 4) Value.bool fun (x56 : Bool) =>
        R (x52, x53, x54, x55, x56) true vw51) (Br (kind1 == 8) (St vw26 (⟨w.heap.size, 0, none⟩ : Addr) (.bool true) fun vw57 =>
          St vw57 ((⟨w.heap.size, 0, none⟩ : Addr).add 1) (.bool true) fun vw58 =>
          St vw58 ((⟨w.heap.size, 0, none⟩ : Addr).add 2) (.bool false) fun vw59 =>
          St vw59 ((⟨w.heap.size, 0, none⟩ : Addr).add 3) (.bool false) fun vw60 =>
          St vw60 ((⟨w.heap.size, 0, none⟩ : Addr).add 4) (.bool false) fun vw61 =>
          Ld vw61 (⟨w.heap.size, 0, none⟩ : Addr) Value.bool fun (x62 : Bool) =>
          Ld vw61 ((⟨w.heap.size, 0, none⟩ : Addr).add 1) Value.bool fun (x63 : Bool) =>
          Ld vw61 ((⟨w.heap.size, 0, none⟩ : Addr).add 2) Value.bool fun (x64 : Bool) =>
          Ld vw61 ((⟨w.heap.size, 0, none⟩ : Addr).add 3) Value.bool fun (x65 : Bool) =>
          Ld vw61 ((⟨w.heap.size, 0, none⟩ : Addr).add 4) Value.bool fun (x66 : Bool) =>
          R (x62, x63, x64, x65, x66) true vw61) (Br (kind1 == 9) (St vw26 (⟨w.heap.size, 0, none⟩ : Addr) (.bool false) fun vw67 =>
            St vw67 ((⟨w.heap.size, 0, none⟩ : Addr).add 1) (.bool false) fun vw68 =>
            St vw68 ((⟨w.heap.size, 0, none⟩ : Addr).add 2) (.bool true) fun vw69 =>
            St vw69 ((⟨w.heap.size, 0, none⟩ : Addr).add 3) (.bool true) fun vw70 =>
            St vw70 ((⟨w.heap.size, 0, none⟩ : Addr).add 4) (.bool true) fun vw71 =>
            Ld vw71 (⟨w.heap.size, 0, none⟩ : Addr) Value.bool fun (x72 : Bool) =>
            Ld vw71 ((⟨w.heap.size, 0, none⟩ : Addr).add 1) Value.bool fun (x73 : Bool) =>
            Ld vw71 ((⟨w.heap.size, 0, none⟩ : Addr).add 2) Value.bool fun (x74 : Bool) =>
            Ld vw71 ((⟨w.heap.size, 0, none⟩ : Addr).add 3) Value.bool fun (x75 : Bool) =>
            Ld vw71 ((⟨w.heap.size, 0, none⟩ : Addr).add 4) Value.bool fun (x76 : Bool) =>
            R (x72, x73, x74, x75, x76) true vw71) (St vw26 (⟨w.heap.size, 0, none⟩ : Addr) (.bool false) fun vw77 =>
            St vw77 ((⟨w.heap.size, 0, none⟩ : Addr).add 1) (.bool false) fun vw78 =>
            St vw78 ((⟨w.heap.size, 0, none⟩ : Addr).add 2) (.bool false) fun vw79 =>
            St vw79 ((⟨w.heap.size, 0, none⟩ : Addr).add 3) (.bool false) fun vw80 =>
            St vw80 ((⟨w.heap.size, 0, none⟩ : Addr).add 4) (.bool false) fun vw81 =>
            Ld vw81 (⟨w.heap.size, 0, none⟩ : Addr) Value.bool fun (x82 : Bool) =>
            Ld vw81 ((⟨w.heap.size, 0, none⟩ : Addr).add 1) Value.bool fun (x83 : Bool) =>
            Ld vw81 ((⟨w.heap.size, 0, none⟩ : Addr).add 2) Value.bool fun (x84 : Bool) =>
            Ld vw81 ((⟨w.heap.size, 0, none⟩ : Addr).add 3) Value.bool fun (x85 : Bool) =>
            Ld vw81 ((⟨w.heap.size, 0, none⟩ : Addr).add 4) Value.bool fun (x86 : Bool) =>
            R (x82, x83, x84, x85, x86) false vw81)))))
def S55J2 (w : World) (kind1 : Int) (R : (Bool × Bool × Bool × Bool × Bool) → Bool → World → Prop) (s13 : Bool) (vw14 : World) : Prop :=
  Br s13 (St vw14 (⟨w.heap.size, 0, none⟩ : Addr) (.bool true) fun vw15 =>
    St vw15 ((⟨w.heap.size, 0, none⟩ : Addr).add 1) (.bool false) fun vw16 =>
    St vw16 ((⟨w.heap.size, 0, none⟩ : Addr).add 2) (.bool false) fun vw17 =>
    St vw17 ((⟨w.heap.size, 0, none⟩ : Addr).add 3) (.bool false) fun vw18 =>
    St vw18 ((⟨w.heap.size, 0, none⟩ : Addr).add 4) (.bool false) fun vw19 =>
    Ld vw19 (⟨w.heap.size, 0, none⟩ : Addr) Value.bool fun (x20 : Bool) =>
    Ld vw19 ((⟨w.heap.size, 0, none⟩ : Addr).add 1) Value.bool fun (x21 : Bool) =>
    Ld vw19 ((⟨w.heap.size, 0, none⟩ : Addr).add 2) Value.bool fun (x22 : Bool) =>
    Ld vw19 ((⟨w.heap.size, 0, none⟩ : Addr).add 3) Value.bool fun (x23 : Bool) =>
    Ld vw19 ((⟨w.heap.size, 0, none⟩ : Addr).add 4) Value.bool fun (x24 : Bool) =>
    R (x20, x21, x22, x23, x24) true vw19) (Join (S55J1 w kind1 R) fun (vJ87 : Bool → World → Prop) =>
      Br (kind1 == 4) (vJ87 (kind1 == 4) vw14) (vJ87 (kind1 == 5) vw14))
/-- foliant/value.used -/
def S55 (kind1 : Int) (w : World) (R : (Bool × Bool × Bool × Bool × Bool) → Bool → World → Prop) : Prop :=
  Nw w (.cells #[.bool false, .bool false, .bool false, .bool false, .bool false] 118) fun vw2 =>
  Br (kind1 == 0) (St vw2 (⟨w.heap.size, 0, none⟩ : Addr) (.bool false) fun vw3 =>
    St vw3 ((⟨w.heap.size, 0, none⟩ : Addr).add 1) (.bool false) fun vw4 =>
    St vw4 ((⟨w.heap.size, 0, none⟩ : Addr).add 2) (.bool false) fun vw5 =>
    St vw5 ((⟨w.heap.size, 0, none⟩ : Addr).add 3) (.bool false) fun vw6 =>
    St vw6 ((⟨w.heap.size, 0, none⟩ : Addr).add 4) (.bool false) fun vw7 =>
    Ld vw7 (⟨w.heap.size, 0, none⟩ : Addr) Value.bool fun (x8 : Bool) =>
    Ld vw7 ((⟨w.heap.size, 0, none⟩ : Addr).add 1) Value.bool fun (x9 : Bool) =>
    Ld vw7 ((⟨w.heap.size, 0, none⟩ : Addr).add 2) Value.bool fun (x10 : Bool) =>
    Ld vw7 ((⟨w.heap.size, 0, none⟩ : Addr).add 3) Value.bool fun (x11 : Bool) =>
    Ld vw7 ((⟨w.heap.size, 0, none⟩ : Addr).add 4) Value.bool fun (x12 : Bool) =>
    R (x8, x9, x10, x11, x12) true vw7) (Join (S55J2 w kind1 R) fun (vJ88 : Bool → World → Prop) =>
      Br (kind1 == 1) (vJ88 (kind1 == 1) vw2) (Br (kind1 == 2) (vJ88 (kind1 == 2) vw2) (vJ88 (kind1 == 3) vw2)))
def pl55 : Plan := (.seq (.reg .seq) (.seq (.seq (.reg .seq) (.block (.seq (.reg .seq) (.cond (.seq (.reg .seq) .leaf) (.join [(8, (.one .bool))] [2, 4] (.seq (.reg .seq) (.cond .leaf (.seq (.reg .seq) (.cond .leaf (.reg .seq))))) (.cond (.seq (.reg .seq) .leaf) (.join [(13, (.one .bool))] [2, 4] (.seq (.reg .seq) (.cond .leaf (.reg .seq))) (.cond (.seq (.reg .seq) .leaf) (.seq (.reg .seq) (.cond (.seq (.reg .seq) .leaf) (.seq (.reg .seq) (.cond (.seq (.reg .seq) .leaf) (.seq (.reg .seq) (.cond (.seq (.reg .seq) .leaf) (.seq (.reg .seq) (.cond (.seq (.reg .seq) .leaf) .leaf)))))))))))))))) (.seq (.reg .seq) .leaf)))
set_option maxRecDepth 100000 in
theorem T55 (kind1 : Int) (w : World) (R : (Bool × Bool × Bool × Bool × Bool) → Bool → World → Prop) (h : S55 kind1 w R) : C55 kind1 w R := by
  have e : fnT Tryd.prog ⟨FF, MAY, (fun _ _ => False)⟩ pl55 Tryd.f55 [.int .i64 kind1] w [(.agg [.bool, .bool, .bool, .bool, .bool]), (.one .bool)] (fun s w => R s.1 s.2 w) = S55 kind1 w R := by kernel_rfl
  exact (fn_calls okF okM Tryd.func55 (by kernel_rfl) (by kernel_rfl) (e.mpr h)).mono fun _ _ ⟨s, he, hR⟩ => ⟨s.1, s.2, he, hR⟩

/-- foliant/value.within[int] -/
def S71 (n1 : Int) (least2 : Int) (most3 : Int) (w : World) (R : Bool → World → Prop) : Prop :=
  Br (decide (least2 ≤ n1)) (R (decide (n1 ≤ most3)) w) (R false w)
def pl71 : Plan := (.seq (.reg .seq) (.seq (.reg .seq) .leaf))
set_option maxRecDepth 100000 in
theorem T71 (n1 : Int) (least2 : Int) (most3 : Int) (w : World) (R : Bool → World → Prop) (h : S71 n1 least2 most3 w R) : C71 n1 least2 most3 w R := by
  have e : fnT Tryd.prog ⟨FF, MAY, (fun _ _ => False)⟩ pl71 Tryd.f71 [.int .i64 n1, .int .i64 least2, .int .i64 most3] w [(.one .bool)] (fun s w => R s w) = S71 n1 least2 most3 w R := by kernel_rfl
  exact (fn_calls okF okM Tryd.func71 (by kernel_rfl) (by kernel_rfl) (e.mpr h)).mono fun _ _ ⟨s, he, hR⟩ => ⟨s, he, hR⟩

/-- foliant/value.fits -/
def S56 (o1 : Int × Int × Int × ByteArray × Slc × Slc) (w : World) (R : Bool → World → Prop) : Prop :=
  Nw w (.cells #[.int .i64 (o1.1), .int .i64 (o1.2.1), .int .i64 (o1.2.2.1), .string o1.2.2.2.1, Slc.v o1.2.2.2.2.1, Slc.v o1.2.2.2.2.2] 64) fun vw2 =>
  Ld vw2 (⟨w.heap.size, 0, none⟩ : Addr) (Value.int .i64) fun (x3 : Int) =>
  Br (x3 == 1) (Ld vw2 ((⟨w.heap.size, 0, none⟩ : Addr).add 1) (Value.int .i64) fun (x4 : Int) =>
    C63 x4 0 1 vw2 fun r5 vw6 =>
      R r5 vw6) (Br (x3 == 2) (Ld vw2 ((⟨w.heap.size, 0, none⟩ : Addr).add 1) (Value.int .i64) fun (x7 : Int) =>
      C63 x7 (-2147483647) 2147483647 vw2 fun r8 vw9 =>
        R r8 vw9) (Br (x3 == 3) (Ld vw2 ((⟨w.heap.size, 0, none⟩ : Addr).add 1) (Value.int .i64) fun (x10 : Int) =>
        C63 x10 (-1073741824) 1073741824 vw2 fun r11 vw12 =>
          R r11 vw12) (Br (x3 == 8) (Ld vw2 ((⟨w.heap.size, 0, none⟩ : Addr).add 1) (Value.int .i64) fun (x13 : Int) =>
          C63 x13 1 8191 vw2 fun r14 vw15 =>
            Br r14 (Ld vw15 ((⟨w.heap.size, 0, none⟩ : Addr).add 2) (Value.int .i64) fun (x16 : Int) =>
              C71 x16 0 65535 vw15 fun r17 vw18 =>
                R r17 vw18) (R false vw15)) (R true vw2))))
def pl56 : Plan := (.seq (.reg .seq) (.seq (.seq (.reg .seq) (.block (.seq (.reg .seq) (.cond (.seq (.reg .seq) .leaf) (.seq (.reg .seq) (.cond (.seq (.reg .seq) .leaf) (.seq (.reg .seq) (.cond (.seq (.reg .seq) .leaf) (.seq (.reg .seq) (.cond (.seq (.reg .seq) .leaf) .leaf)))))))))) (.seq (.reg .seq) .leaf)))
set_option maxRecDepth 100000 in
theorem T56 (o1 : Int × Int × Int × ByteArray × Slc × Slc) (w : World) (R : Bool → World → Prop) (h : S56 o1 w R) : C56 (o1.1, o1.2.1, o1.2.2.1, o1.2.2.2.1, o1.2.2.2.2.1, o1.2.2.2.2.2) w R := by
  have e : fnT Tryd.prog ⟨FF, MAY, (fun _ _ => False)⟩ pl56 Tryd.f56 [.agg #[.int .i64 (o1.1), .int .i64 (o1.2.1), .int .i64 (o1.2.2.1), .string o1.2.2.2.1, Slc.v o1.2.2.2.2.1, Slc.v o1.2.2.2.2.2]] w [(.one .bool)] (fun s w => R s w) = S56 o1 w R := by kernel_rfl
  exact (fn_calls okF okM Tryd.func56 (by kernel_rfl) (by kernel_rfl) (e.mpr h)).mono fun _ _ ⟨s, he, hR⟩ => ⟨s, he, hR⟩

/-- foliant/value.short -/
def S57 (o1 : Int × Int × Int × ByteArray × Slc × Slc) (w : World) (R : Bool → World → Prop) : Prop :=
  Nw w (.cells #[.int .i64 (o1.1), .int .i64 (o1.2.1), .int .i64 (o1.2.2.1), .string o1.2.2.2.1, Slc.v o1.2.2.2.2.1, Slc.v o1.2.2.2.2.2] 64) fun vw2 =>
  Ld vw2 (⟨w.heap.size, 0, none⟩ : Addr) (Value.int .i64) fun (x6 : Int) =>
  Br (x6 == 4) (Ld vw2 ((⟨w.heap.size, 0, none⟩ : Addr).add 3) Value.string fun (x7 : ByteArray) =>
    R (decide ((((x7).size : Nat) : Int) ≤ 32767)) vw2) (Br (x6 == 5) (Ld vw2 ((⟨w.heap.size, 0, none⟩ : Addr).add 3) Value.string fun (x8 : ByteArray) =>
      R (decide ((((x8).size : Nat) : Int) ≤ 127)) vw2) (Ld vw2 ((⟨w.heap.size, 0, none⟩ : Addr).add 3) Value.string fun (x9 : ByteArray) =>
      R (decide ((((x9).size : Nat) : Int) ≤ 1048576)) vw2))
def pl57 : Plan := (.seq (.reg .seq) (.seq (.seq (.reg .seq) (.block (.seq (.reg .seq) (.cond (.seq (.reg .seq) .leaf) (.seq (.reg .seq) (.cond (.seq (.reg .seq) .leaf) .leaf)))))) (.seq (.reg .seq) .leaf)))
set_option maxRecDepth 100000 in
theorem T57 (o1 : Int × Int × Int × ByteArray × Slc × Slc) (w : World) (R : Bool → World → Prop) (h : S57 o1 w R) : C57 (o1.1, o1.2.1, o1.2.2.1, o1.2.2.2.1, o1.2.2.2.2.1, o1.2.2.2.2.2) w R := by
  have e : fnT Tryd.prog ⟨FF, MAY, (fun _ _ => False)⟩ pl57 Tryd.f57 [.agg #[.int .i64 (o1.1), .int .i64 (o1.2.1), .int .i64 (o1.2.2.1), .string o1.2.2.2.1, Slc.v o1.2.2.2.2.1, Slc.v o1.2.2.2.2.2]] w [(.one .bool)] (fun s w => R s w) = S57 o1 w R := by kernel_rfl
  exact (fn_calls okF okM Tryd.func57 (by kernel_rfl) (by kernel_rfl) (e.mpr h)).mono fun _ _ ⟨s, he, hR⟩ => ⟨s, he, hR⟩



/-- foliant/value.key -/
def S58 (s1 : ByteArray) (w : World) (R : Bool → World → Prop) : Prop :=
  Br (decide ((((s1).size : Nat) : Int) ≤ 127)) (C72 s1 0 w fun r2 vw3 =>
      R (decide (r2 < 0)) vw3) (R false w)
def pl58 : Plan := (.seq (.reg .seq) (.seq (.reg .seq) .leaf))
set_option maxRecDepth 100000 in
theorem T58 (s1 : ByteArray) (w : World) (R : Bool → World → Prop) (h : S58 s1 w R) : C58 s1 w R := by
  have e : fnT Tryd.prog ⟨FF, MAY, (fun _ _ => False)⟩ pl58 Tryd.f58 [.string s1] w [(.one .bool)] (fun s w => R s w) = S58 s1 w R := by kernel_rfl
  exact (fn_calls okF okM Tryd.func58 (by kernel_rfl) (by kernel_rfl) (e.mpr h)).mono fun _ _ ⟨s, he, hR⟩ => ⟨s, he, hR⟩

def S59L1 (w : World) (x7 : Slc) (R : Bool → World → Prop) (I10 : Int → World → Prop) (s8 : Int) (vw9 : World) : Prop :=
  Br (decide (s8 < ((x7.len : Nat) : Int))) (0 ≤ s8 ∧ s8 < (x7.len : Nat) ∧ Nn x7.p fun a11 =>
    Ld vw9 (a11.add ((s8).toNat * 1)) Value.string fun (x12 : ByteArray) =>
    C58 x12 vw9 fun r13 vw14 =>
      Br (!r13) (R false vw14) (Br (decide (s8 > 0)) (Ld vw14 ((⟨w.heap.size, 0, none⟩ : Addr).add 4) Slc.v fun (x15 : Slc) =>
          0 ≤ (IntKind.i64.wrap (s8 - 1)) ∧ (IntKind.i64.wrap (s8 - 1)) < (x15.len : Nat) ∧ Nn x15.p fun a16 =>
          Ld vw14 (a16.add ((IntKind.i64.wrap (s8 - 1)).toNat * 1)) Value.string fun (x17 : ByteArray) =>
          Br (!(Op.bytesLess x17.toList x12.toList)) (R false vw14) (Ld vw14 (⟨w.heap.size, 0, none⟩ : Addr) (Value.int .i64) fun (x18 : Int) =>
            Br (x18 == 9) (Br (x12.toList == (⟨#[76, 101, 110, 103, 116, 104]⟩ : ByteArray).toList) (R false vw14) (Ld vw14 ((⟨w.heap.size, 0, none⟩ : Addr).add 5) Slc.v fun (x19 : Slc) =>
                0 ≤ s8 ∧ s8 < (x19.len : Nat) ∧ Nn x19.p fun a20 =>
                Ld vw14 (a20.add ((s8).toNat * 6)) (Value.int .i64) fun (x21 : Int) =>
                Br (x21 == 0) (R false vw14) (I10 (IntKind.i64.wrap (s8 + 1)) vw14))) (Ld vw14 ((⟨w.heap.size, 0, none⟩ : Addr).add 5) Slc.v fun (x22 : Slc) =>
              0 ≤ s8 ∧ s8 < (x22.len : Nat) ∧ Nn x22.p fun a23 =>
              Ld vw14 (a23.add ((s8).toNat * 6)) (Value.int .i64) fun (x24 : Int) =>
              Br (x24 == 0) (R false vw14) (I10 (IntKind.i64.wrap (s8 + 1)) vw14)))) (Ld vw14 (⟨w.heap.size, 0, none⟩ : Addr) (Value.int .i64) fun (x25 : Int) =>
          Br (x25 == 9) (Br (x12.toList == (⟨#[76, 101, 110, 103, 116, 104]⟩ : ByteArray).toList) (R false vw14) (Ld vw14 ((⟨w.heap.size, 0, none⟩ : Addr).add 5) Slc.v fun (x26 : Slc) =>
              0 ≤ s8 ∧ s8 < (x26.len : Nat) ∧ Nn x26.p fun a27 =>
              Ld vw14 (a27.add ((s8).toNat * 6)) (Value.int .i64) fun (x28 : Int) =>
              Br (x28 == 0) (R false vw14) (I10 (IntKind.i64.wrap (s8 + 1)) vw14))) (Ld vw14 ((⟨w.heap.size, 0, none⟩ : Addr).add 5) Slc.v fun (x29 : Slc) =>
            0 ≤ s8 ∧ s8 < (x29.len : Nat) ∧ Nn x29.p fun a30 =>
            Ld vw14 (a30.add ((s8).toNat * 6)) (Value.int .i64) fun (x31 : Int) =>
            Br (x31 == 0) (R false vw14) (I10 (IntKind.i64.wrap (s8 + 1)) vw14))))) (R true vw9)
/-- foliant/value.rising -/
def S59 (o1 : Int × Int × Int × ByteArray × Slc × Slc) (w : World) (R : Bool → World → Prop) : Prop :=
  Nw w (.cells #[.int .i64 (o1.1), .int .i64 (o1.2.1), .int .i64 (o1.2.2.1), .string o1.2.2.2.1, Slc.v o1.2.2.2.2.1, Slc.v o1.2.2.2.2.2] 64) fun vw2 =>
  Ld vw2 ((⟨w.heap.size, 0, none⟩ : Addr).add 4) Slc.v fun (x5 : Slc) =>
  Ld vw2 ((⟨w.heap.size, 0, none⟩ : Addr).add 5) Slc.v fun (x6 : Slc) =>
  Br (((x5.len : Nat) : Int) != ((x6.len : Nat) : Int)) (R false vw2) (Ld vw2 ((⟨w.heap.size, 0, none⟩ : Addr).add 4) Slc.v fun (x7 : Slc) =>
    Lp (σ := Int) (S59L1 w x7 R) 0 vw2)
def pl59 : Plan := (.seq (.reg .seq) (.seq (.seq (.reg .seq) (.cond (.seq (.reg .seq) .leaf) .leaf)) (.seq (.seq (.reg .seq) (.block (.loop [(15, (.one (.int .i64)))] [1, 13, 14] (.seq (.reg .seq) (.seq (.cond .leaf .leaf) (.seq (.block (.seq (.reg .seq) (.seq (.reg .seq) (.cond (.seq (.reg .seq) .leaf) .leaf)))) (.reg .seq))))))) (.seq (.reg .seq) .leaf))))
set_option maxRecDepth 100000 in
theorem T59 (o1 : Int × Int × Int × ByteArray × Slc × Slc) (w : World) (R : Bool → World → Prop) (h : S59 o1 w R) : C59 (o1.1, o1.2.1, o1.2.2.1, o1.2.2.2.1, o1.2.2.2.2.1, o1.2.2.2.2.2) w R := by
  have e : fnT Tryd.prog ⟨FF, MAY, (fun _ _ => False)⟩ pl59 Tryd.f59 [.agg #[.int .i64 (o1.1), .int .i64 (o1.2.1), .int .i64 (o1.2.2.1), .string o1.2.2.2.1, Slc.v o1.2.2.2.2.1, Slc.v o1.2.2.2.2.2]] w [(.one .bool)] (fun s w => R s w) = S59 o1 w R := by kernel_rfl
  exact (fn_calls okF okM Tryd.func59 (by kernel_rfl) (by kernel_rfl) (e.mpr h)).mono fun _ _ ⟨s, he, hR⟩ => ⟨s, he, hR⟩

def S40L1 (deep2 : Int) (x256 : Slc) (R : World → Prop) (PR : Value → World → Prop) (I259 : Int → World → Prop) (s257 : Int) (vw258 : World) : Prop :=
  Br (decide (s257 < ((x256.len : Nat) : Int))) (0 ≤ s257 ∧ s257 < (x256.len : Nat) ∧ Nn x256.p fun a260 =>
    Ld vw258 (a260.add ((s257).toNat * 6)) (Value.int .i64) fun (x261 : Int) =>
    Ld vw258 ((a260.add ((s257).toNat * 6)).add 1) (Value.int .i64) fun (x262 : Int) =>
    Ld vw258 ((a260.add ((s257).toNat * 6)).add 2) (Value.int .i64) fun (x263 : Int) =>
    Ld vw258 ((a260.add ((s257).toNat * 6)).add 3) Value.string fun (x264 : ByteArray) =>
    Ld vw258 ((a260.add ((s257).toNat * 6)).add 4) Slc.v fun (x265 : Slc) =>
    Ld vw258 ((a260.add ((s257).toNat * 6)).add 5) Slc.v fun (x266 : Slc) =>
    Nw vw258 (.cells #[.int .i64 0, .int .i64 0, .int .i64 0, .string ((⟨#[]⟩ : ByteArray)), Slc.v ((⟨none, 0, 0⟩ : Slc)), Slc.v ((⟨none, 0, 0⟩ : Slc))] 64) fun vw267 =>
    St vw267 (⟨vw258.heap.size, 0, none⟩ : Addr) (.int .i64 x261) fun vw268 =>
    St vw268 ((⟨vw258.heap.size, 0, none⟩ : Addr).add 1) (.int .i64 x262) fun vw269 =>
    St vw269 ((⟨vw258.heap.size, 0, none⟩ : Addr).add 2) (.int .i64 x263) fun vw270 =>
    St vw270 ((⟨vw258.heap.size, 0, none⟩ : Addr).add 3) (.string x264) fun vw271 =>
    St vw271 ((⟨vw258.heap.size, 0, none⟩ : Addr).add 4) (Slc.v x265) fun vw272 =>
    St vw272 ((⟨vw258.heap.size, 0, none⟩ : Addr).add 5) (Slc.v x266) fun vw273 =>
    Ld vw273 (⟨vw258.heap.size, 0, none⟩ : Addr) (Value.int .i64) fun (x274 : Int) =>
    Ld vw273 ((⟨vw258.heap.size, 0, none⟩ : Addr).add 1) (Value.int .i64) fun (x275 : Int) =>
    Ld vw273 ((⟨vw258.heap.size, 0, none⟩ : Addr).add 2) (Value.int .i64) fun (x276 : Int) =>
    Ld vw273 ((⟨vw258.heap.size, 0, none⟩ : Addr).add 3) Value.string fun (x277 : ByteArray) =>
    Ld vw273 ((⟨vw258.heap.size, 0, none⟩ : Addr).add 4) Slc.v fun (x278 : Slc) =>
    Ld vw273 ((⟨vw258.heap.size, 0, none⟩ : Addr).add 5) Slc.v fun (x279 : Slc) =>
    C40 (x274, x275, x276, x277, x278, x279) (IntKind.i64.wrap (deep2 + 1)) vw273 (fun vw280 =>
      I259 (IntKind.i64.wrap (s257 + 1)) vw280) PR) (R vw258)
def S40J1 (w : World) (deep2 : Int) (R : World → Prop) (PR : Value → World → Prop) (s254 : Unit) (vw255 : World) : Prop :=
  Ld vw255 ((⟨w.heap.size, 0, none⟩ : Addr).add 5) Slc.v fun (x256 : Slc) =>
  Lp (σ := Int) (S40L1 deep2 x256 R PR) 0 vw255
def S40J2 (w : World) (deep2 : Int) (vw8 : World) (R : World → Prop) (PR : Value → World → Prop) (s205 : Unit) (vw206 : World) : Prop :=
  Ld vw206 (⟨w.heap.size, 0, none⟩ : Addr) (Value.int .i64) fun (x207 : Int) =>
  Ld vw206 ((⟨w.heap.size, 0, none⟩ : Addr).add 1) (Value.int .i64) fun (x208 : Int) =>
  Ld vw206 ((⟨w.heap.size, 0, none⟩ : Addr).add 2) (Value.int .i64) fun (x209 : Int) =>
  Ld vw206 ((⟨w.heap.size, 0, none⟩ : Addr).add 3) Value.string fun (x210 : ByteArray) =>
  Ld vw206 ((⟨w.heap.size, 0, none⟩ : Addr).add 4) Slc.v fun (x211 : Slc) =>
  Ld vw206 ((⟨w.heap.size, 0, none⟩ : Addr).add 5) Slc.v fun (x212 : Slc) =>
  C56 (x207, x208, x209, x210, x211, x212) vw206 fun r213 vw214 =>
    C54 r213 2 vw214 (fun vw215 =>
      Ld vw215 (⟨w.heap.size, 0, none⟩ : Addr) (Value.int .i64) fun (x216 : Int) =>
      Ld vw215 ((⟨w.heap.size, 0, none⟩ : Addr).add 1) (Value.int .i64) fun (x217 : Int) =>
      Ld vw215 ((⟨w.heap.size, 0, none⟩ : Addr).add 2) (Value.int .i64) fun (x218 : Int) =>
      Ld vw215 ((⟨w.heap.size, 0, none⟩ : Addr).add 3) Value.string fun (x219 : ByteArray) =>
      Ld vw215 ((⟨w.heap.size, 0, none⟩ : Addr).add 4) Slc.v fun (x220 : Slc) =>
      Ld vw215 ((⟨w.heap.size, 0, none⟩ : Addr).add 5) Slc.v fun (x221 : Slc) =>
      C57 (x216, x217, x218, x219, x220, x221) vw215 fun r222 vw223 =>
        C54 r222 5 vw223 (fun vw224 =>
          Ld vw224 ((⟨w.heap.size, 0, none⟩ : Addr).add 5) Slc.v fun (x225 : Slc) =>
          C54 (decide (((x225.len : Nat) : Int) ≤ 8191)) 6 vw224 (fun vw226 =>
            Join (S40J1 w deep2 R PR) fun (vJ281 : Unit → World → Prop) =>
              Ld vw226 (⟨w.heap.size, 0, none⟩ : Addr) (Value.int .i64) fun (x282 : Int) =>
              Br (x282 != 5) (Ld vw226 ((⟨vw8.heap.size, 0, none⟩ : Addr).add 3) Value.bool fun (x283 : Bool) =>
                Br (!x283) (C54 true 3 vw226 (fun vw284 =>
                    vJ281 () vw284) PR) (Ld vw226 (⟨w.heap.size, 0, none⟩ : Addr) (Value.int .i64) fun (x285 : Int) =>
                  Ld vw226 ((⟨w.heap.size, 0, none⟩ : Addr).add 1) (Value.int .i64) fun (x286 : Int) =>
                  Ld vw226 ((⟨w.heap.size, 0, none⟩ : Addr).add 2) (Value.int .i64) fun (x287 : Int) =>
                  Ld vw226 ((⟨w.heap.size, 0, none⟩ : Addr).add 3) Value.string fun (x288 : ByteArray) =>
                  Ld vw226 ((⟨w.heap.size, 0, none⟩ : Addr).add 4) Slc.v fun (x289 : Slc) =>
                  Ld vw226 ((⟨w.heap.size, 0, none⟩ : Addr).add 5) Slc.v fun (x290 : Slc) =>
                  C59 (x285, x286, x287, x288, x289, x290) vw226 fun r291 vw292 =>
                    C54 r291 3 vw292 (fun vw293 =>
                      vJ281 () vw293) PR)) (Ld vw226 ((⟨w.heap.size, 0, none⟩ : Addr).add 3) Value.string fun (x294 : ByteArray) =>
                C58 x294 vw226 fun r295 vw296 =>
                  Br r295 (Ld vw296 ((⟨vw8.heap.size, 0, none⟩ : Addr).add 3) Value.bool fun (x297 : Bool) =>
                    Br (!x297) (C54 true 3 vw296 (fun vw298 =>
                        vJ281 () vw298) PR) (Ld vw296 (⟨w.heap.size, 0, none⟩ : Addr) (Value.int .i64) fun (x299 : Int) =>
                      Ld vw296 ((⟨w.heap.size, 0, none⟩ : Addr).add 1) (Value.int .i64) fun (x300 : Int) =>
                      Ld vw296 ((⟨w.heap.size, 0, none⟩ : Addr).add 2) (Value.int .i64) fun (x301 : Int) =>
                      Ld vw296 ((⟨w.heap.size, 0, none⟩ : Addr).add 3) Value.string fun (x302 : ByteArray) =>
                      Ld vw296 ((⟨w.heap.size, 0, none⟩ : Addr).add 4) Slc.v fun (x303 : Slc) =>
                      Ld vw296 ((⟨w.heap.size, 0, none⟩ : Addr).add 5) Slc.v fun (x304 : Slc) =>
                      C59 (x299, x300, x301, x302, x303, x304) vw296 fun r305 vw306 =>
                        C54 r305 3 vw306 (fun vw307 =>
                          vJ281 () vw307) PR)) (C54 false 3 vw296 (fun vw308 =>
                      vJ281 () vw308) PR))) PR) PR) PR
/-- foliant/value.check -/
def S40 (o1 : Int × Int × Int × ByteArray × Slc × Slc) (deep2 : Int) (w : World) (R : World → Prop) (PR : Value → World → Prop) : Prop :=
  Nw w (.cells #[.int .i64 (o1.1), .int .i64 (o1.2.1), .int .i64 (o1.2.2.1), .string o1.2.2.2.1, Slc.v o1.2.2.2.2.1, Slc.v o1.2.2.2.2.2] 64) fun vw3 =>
  C54 (decide (deep2 ≤ 24)) 7 vw3 (fun vw4 =>
    Ld vw4 (⟨w.heap.size, 0, none⟩ : Addr) (Value.int .i64) fun (x5 : Int) =>
    C55 x5 vw4 fun r6 r7 vw8 =>
      Nw vw8 (.cells #[.bool false, .bool false, .bool false, .bool false, .bool false] 118) fun vw9 =>
      St vw9 (⟨vw8.heap.size, 0, none⟩ : Addr) (.bool r6.1) fun vw10 =>
      St vw10 ((⟨vw8.heap.size, 0, none⟩ : Addr).add 1) (.bool r6.2.1) fun vw11 =>
      St vw11 ((⟨vw8.heap.size, 0, none⟩ : Addr).add 2) (.bool r6.2.2.1) fun vw12 =>
      St vw12 ((⟨vw8.heap.size, 0, none⟩ : Addr).add 3) (.bool r6.2.2.2.1) fun vw13 =>
      St vw13 ((⟨vw8.heap.size, 0, none⟩ : Addr).add 4) (.bool r6.2.2.2.2) fun vw14 =>
      Join (S40J2 w deep2 vw8 R PR) fun (vJ309 : Unit → World → Prop) =>
        Br r7 (Ld vw14 (⟨vw8.heap.size, 0, none⟩ : Addr) Value.bool fun (x310 : Bool) =>
          Br x310 (Ld vw14 ((⟨vw8.heap.size, 0, none⟩ : Addr).add 1) Value.bool fun (x311 : Bool) =>
            Br x311 (Ld vw14 ((⟨vw8.heap.size, 0, none⟩ : Addr).add 2) Value.bool fun (x312 : Bool) =>
              Br x312 (Ld vw14 ((⟨vw8.heap.size, 0, none⟩ : Addr).add 3) Value.bool fun (x313 : Bool) =>
                Br x313 (Ld vw14 ((⟨vw8.heap.size, 0, none⟩ : Addr).add 4) Value.bool fun (x314 : Bool) =>
                  Br x314 (Br (deep2 == 1) (C54 true 10 vw14 (fun vw315 =>
                        vJ309 () vw315) PR) (Ld vw14 (⟨w.heap.size, 0, none⟩ : Addr) (Value.int .i64) fun (x316 : Int) =>
                      C54 (x316 != 9) 10 vw14 (fun vw317 =>
                        vJ309 () vw317) PR)) (Ld vw14 ((⟨w.heap.size, 0, none⟩ : Addr).add 5) Slc.v fun (x318 : Slc) =>
                    Br (((x318.len : Nat) : Int) == 0) (Br (deep2 == 1) (C54 true 10 vw14 (fun vw319 =>
                          vJ309 () vw319) PR) (Ld vw14 (⟨w.heap.size, 0, none⟩ : Addr) (Value.int .i64) fun (x320 : Int) =>
                        C54 (x320 != 9) 10 vw14 (fun vw321 =>
                          vJ309 () vw321) PR)) (C54 false 10 vw14 (fun vw322 =>
                        vJ309 () vw322) PR))) (Ld vw14 ((⟨w.heap.size, 0, none⟩ : Addr).add 4) Slc.v fun (x323 : Slc) =>
                  Br (((x323.len : Nat) : Int) == 0) (Ld vw14 ((⟨vw8.heap.size, 0, none⟩ : Addr).add 4) Value.bool fun (x324 : Bool) =>
                    Br x324 (Br (deep2 == 1) (C54 true 10 vw14 (fun vw325 =>
                          vJ309 () vw325) PR) (Ld vw14 (⟨w.heap.size, 0, none⟩ : Addr) (Value.int .i64) fun (x326 : Int) =>
                        C54 (x326 != 9) 10 vw14 (fun vw327 =>
                          vJ309 () vw327) PR)) (Ld vw14 ((⟨w.heap.size, 0, none⟩ : Addr).add 5) Slc.v fun (x328 : Slc) =>
                      Br (((x328.len : Nat) : Int) == 0) (Br (deep2 == 1) (C54 true 10 vw14 (fun vw329 =>
                            vJ309 () vw329) PR) (Ld vw14 (⟨w.heap.size, 0, none⟩ : Addr) (Value.int .i64) fun (x330 : Int) =>
                          C54 (x330 != 9) 10 vw14 (fun vw331 =>
                            vJ309 () vw331) PR)) (C54 false 10 vw14 (fun vw332 =>
                          vJ309 () vw332) PR))) (C54 false 10 vw14 (fun vw333 =>
                      vJ309 () vw333) PR))) (Ld vw14 ((⟨w.heap.size, 0, none⟩ : Addr).add 3) Value.string fun (x334 : ByteArray) =>
                Br (x334.toList == (⟨#[]⟩ : ByteArray).toList) (Ld vw14 ((⟨vw8.heap.size, 0, none⟩ : Addr).add 3) Value.bool fun (x335 : Bool) =>
                  Br x335 (Ld vw14 ((⟨vw8.heap.size, 0, none⟩ : Addr).add 4) Value.bool fun (x336 : Bool) =>
                    Br x336 (Br (deep2 == 1) (C54 true 10 vw14 (fun vw337 =>
                          vJ309 () vw337) PR) (Ld vw14 (⟨w.heap.size, 0, none⟩ : Addr) (Value.int .i64) fun (x338 : Int) =>
                        C54 (x338 != 9) 10 vw14 (fun vw339 =>
                          vJ309 () vw339) PR)) (Ld vw14 ((⟨w.heap.size, 0, none⟩ : Addr).add 5) Slc.v fun (x340 : Slc) =>
                      Br (((x340.len : Nat) : Int) == 0) (Br (deep2 == 1) (C54 true 10 vw14 (fun vw341 =>
                            vJ309 () vw341) PR) (Ld vw14 (⟨w.heap.size, 0, none⟩ : Addr) (Value.int .i64) fun (x342 : Int) =>
                          C54 (x342 != 9) 10 vw14 (fun vw343 =>
                            vJ309 () vw343) PR)) (C54 false 10 vw14 (fun vw344 =>
                          vJ309 () vw344) PR))) (Ld vw14 ((⟨w.heap.size, 0, none⟩ : Addr).add 4) Slc.v fun (x345 : Slc) =>
                    Br (((x345.len : Nat) : Int) == 0) (Ld vw14 ((⟨vw8.heap.size, 0, none⟩ : Addr).add 4) Value.bool fun (x346 : Bool) =>
                      Br x346 (Br (deep2 == 1) (C54 true 10 vw14 (fun vw347 =>
                            vJ309 () vw347) PR) (Ld vw14 (⟨w.heap.size, 0, none⟩ : Addr) (Value.int .i64) fun (x348 : Int) =>
                          C54 (x348 != 9) 10 vw14 (fun vw349 =>
                            vJ309 () vw349) PR)) (Ld vw14 ((⟨w.heap.size, 0, none⟩ : Addr).add 5) Slc.v fun (x350 : Slc) =>
                        Br (((x350.len : Nat) : Int) == 0) (Br (deep2 == 1) (C54 true 10 vw14 (fun vw351 =>
                              vJ309 () vw351) PR) (Ld vw14 (⟨w.heap.size, 0, none⟩ : Addr) (Value.int .i64) fun (x352 : Int) =>
                            C54 (x352 != 9) 10 vw14 (fun vw353 =>
                              vJ309 () vw353) PR)) (C54 false 10 vw14 (fun vw354 =>
                            vJ309 () vw354) PR))) (C54 false 10 vw14 (fun vw355 =>
                        vJ309 () vw355) PR))) (C54 false 10 vw14 (fun vw356 =>
                    vJ309 () vw356) PR))) (Ld vw14 ((⟨w.heap.size, 0, none⟩ : Addr).add 2) (Value.int .i64) fun (x357 : Int) =>
              Br (x357 == 0) (Ld vw14 ((⟨vw8.heap.size, 0, none⟩ : Addr).add 2) Value.bool fun (x358 : Bool) =>
                Br x358 (Ld vw14 ((⟨vw8.heap.size, 0, none⟩ : Addr).add 3) Value.bool fun (x359 : Bool) =>
                  Br x359 (Ld vw14 ((⟨vw8.heap.size, 0, none⟩ : Addr).add 4) Value.bool fun (x360 : Bool) =>
                    Br x360 (Br (deep2 == 1) (C54 true 10 vw14 (fun vw361 =>
                          vJ309 () vw361) PR) (Ld vw14 (⟨w.heap.size, 0, none⟩ : Addr) (Value.int .i64) fun (x362 : Int) =>
                        C54 (x362 != 9) 10 vw14 (fun vw363 =>
                          vJ309 () vw363) PR)) (Ld vw14 ((⟨w.heap.size, 0, none⟩ : Addr).add 5) Slc.v fun (x364 : Slc) =>
                      Br (((x364.len : Nat) : Int) == 0) (Br (deep2 == 1) (C54 true 10 vw14 (fun vw365 =>
                            vJ309 () vw365) PR) (Ld vw14 (⟨w.heap.size, 0, none⟩ : Addr) (Value.int .i64) fun (x366 : Int) =>
                          C54 (x366 != 9) 10 vw14 (fun vw367 =>
                            vJ309 () vw367) PR)) (C54 false 10 vw14 (fun vw368 =>
                          vJ309 () vw368) PR))) (Ld vw14 ((⟨w.heap.size, 0, none⟩ : Addr).add 4) Slc.v fun (x369 : Slc) =>
                    Br (((x369.len : Nat) : Int) == 0) (Ld vw14 ((⟨vw8.heap.size, 0, none⟩ : Addr).add 4) Value.bool fun (x370 : Bool) =>
                      Br x370 (Br (deep2 == 1) (C54 true 10 vw14 (fun vw371 =>
                            vJ309 () vw371) PR) (Ld vw14 (⟨w.heap.size, 0, none⟩ : Addr) (Value.int .i64) fun (x372 : Int) =>
                          C54 (x372 != 9) 10 vw14 (fun vw373 =>
                            vJ309 () vw373) PR)) (Ld vw14 ((⟨w.heap.size, 0, none⟩ : Addr).add 5) Slc.v fun (x374 : Slc) =>
                        Br (((x374.len : Nat) : Int) == 0) (Br (deep2 == 1) (C54 true 10 vw14 (fun vw375 =>
                              vJ309 () vw375) PR) (Ld vw14 (⟨w.heap.size, 0, none⟩ : Addr) (Value.int .i64) fun (x376 : Int) =>
                            C54 (x376 != 9) 10 vw14 (fun vw377 =>
                              vJ309 () vw377) PR)) (C54 false 10 vw14 (fun vw378 =>
                            vJ309 () vw378) PR))) (C54 false 10 vw14 (fun vw379 =>
                        vJ309 () vw379) PR))) (Ld vw14 ((⟨w.heap.size, 0, none⟩ : Addr).add 3) Value.string fun (x380 : ByteArray) =>
                  Br (x380.toList == (⟨#[]⟩ : ByteArray).toList) (Ld vw14 ((⟨vw8.heap.size, 0, none⟩ : Addr).add 3) Value.bool fun (x381 : Bool) =>
                    Br x381 (Ld vw14 ((⟨vw8.heap.size, 0, none⟩ : Addr).add 4) Value.bool fun (x382 : Bool) =>
                      Br x382 (Br (deep2 == 1) (C54 true 10 vw14 (fun vw383 =>
                            vJ309 () vw383) PR) (Ld vw14 (⟨w.heap.size, 0, none⟩ : Addr) (Value.int .i64) fun (x384 : Int) =>
                          C54 (x384 != 9) 10 vw14 (fun vw385 =>
                            vJ309 () vw385) PR)) (Ld vw14 ((⟨w.heap.size, 0, none⟩ : Addr).add 5) Slc.v fun (x386 : Slc) =>
                        Br (((x386.len : Nat) : Int) == 0) (Br (deep2 == 1) (C54 true 10 vw14 (fun vw387 =>
                              vJ309 () vw387) PR) (Ld vw14 (⟨w.heap.size, 0, none⟩ : Addr) (Value.int .i64) fun (x388 : Int) =>
                            C54 (x388 != 9) 10 vw14 (fun vw389 =>
                              vJ309 () vw389) PR)) (C54 false 10 vw14 (fun vw390 =>
                            vJ309 () vw390) PR))) (Ld vw14 ((⟨w.heap.size, 0, none⟩ : Addr).add 4) Slc.v fun (x391 : Slc) =>
                      Br (((x391.len : Nat) : Int) == 0) (Ld vw14 ((⟨vw8.heap.size, 0, none⟩ : Addr).add 4) Value.bool fun (x392 : Bool) =>
                        Br x392 (Br (deep2 == 1) (C54 true 10 vw14 (fun vw393 =>
                              vJ309 () vw393) PR) (Ld vw14 (⟨w.heap.size, 0, none⟩ : Addr) (Value.int .i64) fun (x394 : Int) =>
                            C54 (x394 != 9) 10 vw14 (fun vw395 =>
                              vJ309 () vw395) PR)) (Ld vw14 ((⟨w.heap.size, 0, none⟩ : Addr).add 5) Slc.v fun (x396 : Slc) =>
                          Br (((x396.len : Nat) : Int) == 0) (Br (deep2 == 1) (C54 true 10 vw14 (fun vw397 =>
                                vJ309 () vw397) PR) (Ld vw14 (⟨w.heap.size, 0, none⟩ : Addr) (Value.int .i64) fun (x398 : Int) =>
                              C54 (x398 != 9) 10 vw14 (fun vw399 =>
                                vJ309 () vw399) PR)) (C54 false 10 vw14 (fun vw400 =>
                              vJ309 () vw400) PR))) (C54 false 10 vw14 (fun vw401 =>
                          vJ309 () vw401) PR))) (C54 false 10 vw14 (fun vw402 =>
                      vJ309 () vw402) PR))) (C54 false 10 vw14 (fun vw403 =>
                  vJ309 () vw403) PR))) (Ld vw14 ((⟨w.heap.size, 0, none⟩ : Addr).add 1) (Value.int .i64) fun (x404 : Int) =>
            Br (x404 == 0) (Ld vw14 ((⟨vw8.heap.size, 0, none⟩ : Addr).add 1) Value.bool fun (x405 : Bool) =>
              Br x405 (Ld vw14 ((⟨vw8.heap.size, 0, none⟩ : Addr).add 2) Value.bool fun (x406 : Bool) =>
                Br x406 (Ld vw14 ((⟨vw8.heap.size, 0, none⟩ : Addr).add 3) Value.bool fun (x407 : Bool) =>
                  Br x407 (Ld vw14 ((⟨vw8.heap.size, 0, none⟩ : Addr).add 4) Value.bool fun (x408 : Bool) =>
                    Br x408 (Br (deep2 == 1) (C54 true 10 vw14 (fun vw409 =>
                          vJ309 () vw409) PR) (Ld vw14 (⟨w.heap.size, 0, none⟩ : Addr) (Value.int .i64) fun (x410 : Int) =>
                        C54 (x410 != 9) 10 vw14 (fun vw411 =>
                          vJ309 () vw411) PR)) (Ld vw14 ((⟨w.heap.size, 0, none⟩ : Addr).add 5) Slc.v fun (x412 : Slc) =>
                      Br (((x412.len : Nat) : Int) == 0) (Br (deep2 == 1) (C54 true 10 vw14 (fun vw413 =>
                            vJ309 () vw413) PR) (Ld vw14 (⟨w.heap.size, 0, none⟩ : Addr) (Value.int .i64) fun (x414 : Int) =>
                          C54 (x414 != 9) 10 vw14 (fun vw415 =>
                            vJ309 () vw415) PR)) (C54 false 10 vw14 (fun vw416 =>
                          vJ309 () vw416) PR))) (Ld vw14 ((⟨w.heap.size, 0, none⟩ : Addr).add 4) Slc.v fun (x417 : Slc) =>
                    Br (((x417.len : Nat) : Int) == 0) (Ld vw14 ((⟨vw8.heap.size, 0, none⟩ : Addr).add 4) Value.bool fun (x418 : Bool) =>
                      Br x418 (Br (deep2 == 1) (C54 true 10 vw14 (fun vw419 =>
                            vJ309 () vw419) PR) (Ld vw14 (⟨w.heap.size, 0, none⟩ : Addr) (Value.int .i64) fun (x420 : Int) =>
                          C54 (x420 != 9) 10 vw14 (fun vw421 =>
                            vJ309 () vw421) PR)) (Ld vw14 ((⟨w.heap.size, 0, none⟩ : Addr).add 5) Slc.v fun (x422 : Slc) =>
                        Br (((x422.len : Nat) : Int) == 0) (Br (deep2 == 1) (C54 true 10 vw14 (fun vw423 =>
                              vJ309 () vw423) PR) (Ld vw14 (⟨w.heap.size, 0, none⟩ : Addr) (Value.int .i64) fun (x424 : Int) =>
                            C54 (x424 != 9) 10 vw14 (fun vw425 =>
                              vJ309 () vw425) PR)) (C54 false 10 vw14 (fun vw426 =>
                            vJ309 () vw426) PR))) (C54 false 10 vw14 (fun vw427 =>
                        vJ309 () vw427) PR))) (Ld vw14 ((⟨w.heap.size, 0, none⟩ : Addr).add 3) Value.string fun (x428 : ByteArray) =>
                  Br (x428.toList == (⟨#[]⟩ : ByteArray).toList) (Ld vw14 ((⟨vw8.heap.size, 0, none⟩ : Addr).add 3) Value.bool fun (x429 : Bool) =>
                    Br x429 (Ld vw14 ((⟨vw8.heap.size, 0, none⟩ : Addr).add 4) Value.bool fun (x430 : Bool) =>
                      Br x430 (Br (deep2 == 1) (C54 true 10 vw14 (fun vw431 =>
                            vJ309 () vw431) PR) (Ld vw14 (⟨w.heap.size, 0, none⟩ : Addr) (Value.int .i64) fun (x432 : Int) =>
                          C54 (x432 != 9) 10 vw14 (fun vw433 =>
                            vJ309 () vw433) PR)) (Ld vw14 ((⟨w.heap.size, 0, none⟩ : Addr).add 5) Slc.v fun (x434 : Slc) =>
                        Br (((x434.len : Nat) : Int) == 0) (Br (deep2 == 1) (C54 true 10 vw14 (fun vw435 =>
                              vJ309 () vw435) PR) (Ld vw14 (⟨w.heap.size, 0, none⟩ : Addr) (Value.int .i64) fun (x436 : Int) =>
                            C54 (x436 != 9) 10 vw14 (fun vw437 =>
                              vJ309 () vw437) PR)) (C54 false 10 vw14 (fun vw438 =>
                            vJ309 () vw438) PR))) (Ld vw14 ((⟨w.heap.size, 0, none⟩ : Addr).add 4) Slc.v fun (x439 : Slc) =>
                      Br (((x439.len : Nat) : Int) == 0) (Ld vw14 ((⟨vw8.heap.size, 0, none⟩ : Addr).add 4) Value.bool fun (x440 : Bool) =>
                        Br x440 (Br (deep2 == 1) (C54 true 10 vw14 (fun vw441 =>
                              vJ309 () vw441) PR) (Ld vw14 (⟨w.heap.size, 0, none⟩ : Addr) (Value.int .i64) fun (x442 : Int) =>
                            C54 (x442 != 9) 10 vw14 (fun vw443 =>
                              vJ309 () vw443) PR)) (Ld vw14 ((⟨w.heap.size, 0, none⟩ : Addr).add 5) Slc.v fun (x444 : Slc) =>
                          Br (((x444.len : Nat) : Int) == 0) (Br (deep2 == 1) (C54 true 10 vw14 (fun vw445 =>
                                vJ309 () vw445) PR) (Ld vw14 (⟨w.heap.size, 0, none⟩ : Addr) (Value.int .i64) fun (x446 : Int) =>
                              C54 (x446 != 9) 10 vw14 (fun vw447 =>
                                vJ309 () vw447) PR)) (C54 false 10 vw14 (fun vw448 =>
                              vJ309 () vw448) PR))) (C54 false 10 vw14 (fun vw449 =>
                          vJ309 () vw449) PR))) (C54 false 10 vw14 (fun vw450 =>
                      vJ309 () vw450) PR))) (Ld vw14 ((⟨w.heap.size, 0, none⟩ : Addr).add 2) (Value.int .i64) fun (x451 : Int) =>
                Br (x451 == 0) (Ld vw14 ((⟨vw8.heap.size, 0, none⟩ : Addr).add 2) Value.bool fun (x452 : Bool) =>
                  Br x452 (Ld vw14 ((⟨vw8.heap.size, 0, none⟩ : Addr).add 3) Value.bool fun (x453 : Bool) =>
                    Br x453 (Ld vw14 ((⟨vw8.heap.size, 0, none⟩ : Addr).add 4) Value.bool fun (x454 : Bool) =>
                      Br x454 (Br (deep2 == 1) (C54 true 10 vw14 (fun vw455 =>
                            vJ309 () vw455) PR) (Ld vw14 (⟨w.heap.size, 0, none⟩ : Addr) (Value.int .i64) fun (x456 : Int) =>
                          C54 (x456 != 9) 10 vw14 (fun vw457 =>
                            vJ309 () vw457) PR)) (Ld vw14 ((⟨w.heap.size, 0, none⟩ : Addr).add 5) Slc.v fun (x458 : Slc) =>
                        Br (((x458.len : Nat) : Int) == 0) (Br (deep2 == 1) (C54 true 10 vw14 (fun vw459 =>
                              vJ309 () vw459) PR) (Ld vw14 (⟨w.heap.size, 0, none⟩ : Addr) (Value.int .i64) fun (x460 : Int) =>
                            C54 (x460 != 9) 10 vw14 (fun vw461 =>
                              vJ309 () vw461) PR)) (C54 false 10 vw14 (fun vw462 =>
                            vJ309 () vw462) PR))) (Ld vw14 ((⟨w.heap.size, 0, none⟩ : Addr).add 4) Slc.v fun (x463 : Slc) =>
                      Br (((x463.len : Nat) : Int) == 0) (Ld vw14 ((⟨vw8.heap.size, 0, none⟩ : Addr).add 4) Value.bool fun (x464 : Bool) =>
                        Br x464 (Br (deep2 == 1) (C54 true 10 vw14 (fun vw465 =>
                              vJ309 () vw465) PR) (Ld vw14 (⟨w.heap.size, 0, none⟩ : Addr) (Value.int .i64) fun (x466 : Int) =>
                            C54 (x466 != 9) 10 vw14 (fun vw467 =>
                              vJ309 () vw467) PR)) (Ld vw14 ((⟨w.heap.size, 0, none⟩ : Addr).add 5) Slc.v fun (x468 : Slc) =>
                          Br (((x468.len : Nat) : Int) == 0) (Br (deep2 == 1) (C54 true 10 vw14 (fun vw469 =>
                                vJ309 () vw469) PR) (Ld vw14 (⟨w.heap.size, 0, none⟩ : Addr) (Value.int .i64) fun (x470 : Int) =>
                              C54 (x470 != 9) 10 vw14 (fun vw471 =>
                                vJ309 () vw471) PR)) (C54 false 10 vw14 (fun vw472 =>
                              vJ309 () vw472) PR))) (C54 false 10 vw14 (fun vw473 =>
                          vJ309 () vw473) PR))) (Ld vw14 ((⟨w.heap.size, 0, none⟩ : Addr).add 3) Value.string fun (x474 : ByteArray) =>
                    Br (x474.toList == (⟨#[]⟩ : ByteArray).toList) (Ld vw14 ((⟨vw8.heap.size, 0, none⟩ : Addr).add 3) Value.bool fun (x475 : Bool) =>
                      Br x475 (Ld vw14 ((⟨vw8.heap.size, 0, none⟩ : Addr).add 4) Value.bool fun (x476 : Bool) =>
                        Br x476 (Br (deep2 == 1) (C54 true 10 vw14 (fun vw477 =>
                              vJ309 () vw477) PR) (Ld vw14 (⟨w.heap.size, 0, none⟩ : Addr) (Value.int .i64) fun (x478 : Int) =>
                            C54 (x478 != 9) 10 vw14 (fun vw479 =>
                              vJ309 () vw479) PR)) (Ld vw14 ((⟨w.heap.size, 0, none⟩ : Addr).add 5) Slc.v fun (x480 : Slc) =>
                          Br (((x480.len : Nat) : Int) == 0) (Br (deep2 == 1) (C54 true 10 vw14 (fun vw481 =>
                                vJ309 () vw481) PR) (Ld vw14 (⟨w.heap.size, 0, none⟩ : Addr) (Value.int .i64) fun (x482 : Int) =>
                              C54 (x482 != 9) 10 vw14 (fun vw483 =>
                                vJ309 () vw483) PR)) (C54 false 10 vw14 (fun vw484 =>
                              vJ309 () vw484) PR))) (Ld vw14 ((⟨w.heap.size, 0, none⟩ : Addr).add 4) Slc.v fun (x485 : Slc) =>
                        Br (((x485.len : Nat) : Int) == 0) (Ld vw14 ((⟨vw8.heap.size, 0, none⟩ : Addr).add 4) Value.bool fun (x486 : Bool) =>
                          Br x486 (Br (deep2 == 1) (C54 true 10 vw14 (fun vw487 =>
                                vJ309 () vw487) PR) (Ld vw14 (⟨w.heap.size, 0, none⟩ : Addr) (Value.int .i64) fun (x488 : Int) =>
                              C54 (x488 != 9) 10 vw14 (fun vw489 =>
                                vJ309 () vw489) PR)) (Ld vw14 ((⟨w.heap.size, 0, none⟩ : Addr).add 5) Slc.v fun (x490 : Slc) =>
                            Br (((x490.len : Nat) : Int) == 0) (Br (deep2 == 1) (C54 true 10 vw14 (fun vw491 =>
                                  vJ309 () vw491) PR) (Ld vw14 (⟨w.heap.size, 0, none⟩ : Addr) (Value.int .i64) fun (x492 : Int) =>
                                C54 (x492 != 9) 10 vw14 (fun vw493 =>
                                  vJ309 () vw493) PR)) (C54 false 10 vw14 (fun vw494 =>
                                vJ309 () vw494) PR))) (C54 false 10 vw14 (fun vw495 =>
                            vJ309 () vw495) PR))) (C54 false 10 vw14 (fun vw496 =>
                        vJ309 () vw496) PR))) (C54 false 10 vw14 (fun vw497 =>
                    vJ309 () vw497) PR))) (C54 false 10 vw14 (fun vw498 =>
                vJ309 () vw498) PR))) (C54 false 10 vw14 (fun vw499 =>
            vJ309 () vw499) PR)) PR
def pl40 : Plan := (.seq (.reg .seq) (.seq (.reg .seq) (.seq (.reg .seq) (.join [] [1, 2, 4] (.reg .seq) (.seq (.reg .seq) (.seq (.reg .seq) (.seq (.reg .seq) (.join [] [1, 2] (.reg .seq) (.seq (.reg .seq) (.block (.loop [(107, (.one (.int .i64)))] [1, 105, 106] (.seq (.reg .seq) (.seq (.cond .leaf .leaf) (.seq (.block (.seq (.reg .seq) (.reg .seq))) (.reg .seq)))))))))))))))
set_option maxRecDepth 100000 in
theorem T40 (o1 : Int × Int × Int × ByteArray × Slc × Slc) (deep2 : Int) (w : World) (R : World → Prop) (PR : Value → World → Prop) (h : S40 o1 deep2 w R PR) : C40 (o1.1, o1.2.1, o1.2.2.1, o1.2.2.2.1, o1.2.2.2.2.1, o1.2.2.2.2.2) deep2 w R PR := by
  have e : fnT Tryd.prog ⟨FF, MAY, PR⟩ pl40 Tryd.f40 [.agg #[.int .i64 (o1.1), .int .i64 (o1.2.1), .int .i64 (o1.2.2.1), .string o1.2.2.2.1, Slc.v o1.2.2.2.2.1, Slc.v o1.2.2.2.2.2], .int .i64 deep2] w [] (fun _ w => R w) = S40 o1 deep2 w R PR := by kernel_rfl
  exact (fn_callsP okF okM Tryd.func40 (by kernel_rfl) (by kernel_rfl) (e.mpr h)).mono fun _ _ he => he.elim (fun ⟨_, he, hR⟩ => .inl ⟨he, hR⟩) .inr

/-- foliant/value.Check$1 -/
def S39 (c1 : Addr) (w : World) (R : World → Prop) (PR : Value → World → Prop) : Prop :=
  Ld w c1 (Value.int .i64) fun (x2 : Int) =>
  Ld w (c1.add 1) (Value.int .i64) fun (x3 : Int) =>
  Ld w (c1.add 2) (Value.int .i64) fun (x4 : Int) =>
  Ld w (c1.add 3) Value.string fun (x5 : ByteArray) =>
  Ld w (c1.add 4) Slc.v fun (x6 : Slc) =>
  Ld w (c1.add 5) Slc.v fun (x7 : Slc) =>
  C40 (x2, x3, x4, x5, x6, x7) 1 w (fun vw8 =>
    R vw8) PR
def pl39 : Plan := (.reg .seq)
set_option maxRecDepth 100000 in
theorem T39 (c1 : Addr) (w : World) (R : World → Prop) (PR : Value → World → Prop) (h : S39 c1 w R PR) : C39 c1 w R PR := by
  have e : fnT Tryd.prog ⟨FF, MAY, PR⟩ pl39 Tryd.f39 [.pointer (some c1)] w [] (fun _ w => R w) = S39 c1 w R PR := by kernel_rfl
  exact (fn_callsP okF okM Tryd.func39 (by kernel_rfl) (by kernel_rfl) (e.mpr h)).mono fun _ _ he => he.elim (fun ⟨_, he, hR⟩ => .inl ⟨he, hR⟩) .inr

/-- foliant/value.caught$1 -/
def S53_nil (c1 : Addr) (w : World) (R : World → Prop) : Prop :=
  R w
def pl53_nil : Plan := (.block (.seq (.reg .seq) (.cond (.reg .seq) (.seq (.reg .seq) (.cond (.seq (.reg .seq) (.reg .seq)) (.seq (.reg .seq) (.reg .seq)))))))
set_option maxRecDepth 100000 in
theorem T53_nil (c1 : Addr) (w : World) (R : World → Prop) (h : S53_nil c1 w R) : CD53 c1 none w R := by
  have e : fnTS Tryd.prog FF MAY pl53_nil Tryd.f53 [.pointer (some c1)] none w R = S53_nil c1 w R := by kernel_rfl
  exact fnS_calls okF okM Tryd.func53 (by kernel_rfl) (by kernel_rfl) (e.mpr h)

/-- foliant/value.caught$1 -/
def S53_T116 (c1 : Addr) (u2 : Int) (w : World) (R : World → Prop) : Prop :=
  Nw w (.cells #[.int .i64 0] 116) fun vw3 =>
  St vw3 (⟨w.heap.size, 0, none⟩ : Addr) (.int .i64 u2) fun vw4 =>
  Ld vw4 (⟨w.heap.size, 0, none⟩ : Addr) (Value.int .i64) fun (x5 : Int) =>
  St vw4 c1 (.int .i64 x5) fun vw6 =>
  R vw6
def pl53_T116 : Plan := (.block (.seq (.reg .seq) (.cond (.reg .seq) (.seq (.reg .seq) (.cond (.seq (.reg .seq) (.reg .seq)) (.seq (.reg .seq) (.reg .seq)))))))
set_option maxRecDepth 100000 in
theorem T53_T116 (c1 : Addr) (u2 : Int) (w : World) (R : World → Prop) (h : S53_T116 c1 u2 w R) : CD53 c1 (some (.iface 116 (.agg #[.int .i64 u2]))) w R := by
  have e : fnTS Tryd.prog FF MAY pl53_T116 Tryd.f53 [.pointer (some c1)] (some (.iface 116 (.agg #[.int .i64 u2]))) w R = S53_T116 c1 u2 w R := by kernel_rfl
  exact fnS_calls okF okM Tryd.func53 (by kernel_rfl) (by kernel_rfl) (e.mpr h)

def S38_F39P (w : World) (R : Int → World → Prop) (x5 : Value) (vw4 : World) : Prop :=
  CD53 (⟨w.heap.size, 0, none⟩ : Addr) (some x5) vw4 fun vw6 =>
    Ld vw6 (⟨w.heap.size, 0, none⟩ : Addr) (Value.int .i64) fun (x7 : Int) =>
    R x7 vw6
/-- foliant/value.caught -/
def S38_F39 (c2 : Addr) (w : World) (R : Int → World → Prop) : Prop :=
  Nw w (.cells #[.int .i64 0] 26) fun vw3 =>
  C39 c2 vw3 (fun vw8 =>
    St vw8 (⟨w.heap.size, 0, none⟩ : Addr) (.int .i64 0) fun vw9 =>
    CD53 (⟨w.heap.size, 0, none⟩ : Addr) none vw9 fun vw10 =>
      Ld vw10 (⟨w.heap.size, 0, none⟩ : Addr) (Value.int .i64) fun (x11 : Int) =>
      R x11 vw10) (S38_F39P w R)
def pl38_F39 : DPlan := (.pre (.reg .seq) (.here [2] (.seq (.reg .seq) (.seq (.reg .seq) .leaf))))
set_option maxRecDepth 100000 in
theorem T38_F39 (c2 : Addr) (w : World) (R : Int → World → Prop) (h : S38_F39 c2 w R) : C38 (.func (.func 39) #[] #[.pointer (some c2)]) w R := by
  have e : fnTD Tryd.prog FF MAY (fun _ _ => False) pl38_F39 Tryd.f38 [.func (.func 39) #[] #[.pointer (some c2)]] w [(.one (.int .i64))] (fun s w => R s w) = S38_F39 c2 w R := by kernel_rfl
  exact (fnD_calls okF okM Tryd.func38 (by kernel_rfl) (by kernel_rfl) (e.mpr h)).mono fun _ _ ⟨s, he, hR⟩ => ⟨s, he, hR⟩

/-- foliant/value.Check -/
def S17 (o1 : Int × Int × Int × ByteArray × Slc × Slc) (w : World) (R : Int → World → Prop) (PR : Value → World → Prop) : Prop :=
  Nw w (.cells #[.int .i64 (o1.1), .int .i64 (o1.2.1), .int .i64 (o1.2.2.1), .string o1.2.2.2.1, Slc.v o1.2.2.2.2.1, Slc.v o1.2.2.2.2.2] 64) fun vw2 =>
  C38 (.func (.func 39) #[] #[.pointer (some (⟨w.heap.size, 0, none⟩ : Addr))]) vw2 fun r3 vw4 =>
    R r3 vw4
def pl17 : Plan := (.seq (.reg .seq) (.seq (.reg .seq) .leaf))
set_option maxRecDepth 100000 in
theorem T17 (o1 : Int × Int × Int × ByteArray × Slc × Slc) (w : World) (R : Int → World → Prop) (PR : Value → World → Prop) (h : S17 o1 w R PR) : C17 (o1.1, o1.2.1, o1.2.2.1, o1.2.2.2.1, o1.2.2.2.2.1, o1.2.2.2.2.2) w R PR := by
  have e : fnT Tryd.prog ⟨FF, MAY, PR⟩ pl17 Tryd.f17 [.agg #[.int .i64 (o1.1), .int .i64 (o1.2.1), .int .i64 (o1.2.2.1), .string o1.2.2.2.1, Slc.v o1.2.2.2.2.1, Slc.v o1.2.2.2.2.2]] w [(.one (.int .i64))] (fun s w => R s w) = S17 o1 w R PR := by kernel_rfl
  exact (fn_callsP okF okM Tryd.func17 (by kernel_rfl) (by kernel_rfl) (e.mpr h)).mono fun _ _ he => he.elim (fun ⟨s, he, hR⟩ => .inl ⟨s, he, hR⟩) .inr

end Go.Proofs.YtdchpkbpnfoknaaDoor

/- The formulas of 3 functions of the program, written by program (gen.py); the kernel checks each. No condition. -/
namespace Go.Proofs.YtdchpkbpnfoknaaDoor
open Sh
set_option linter.unusedVariables false
set_option maxRecDepth 100000

def C6 (l1 : Slc) (w : World) (R : Slc → World → Prop) : Prop :=
  Calls Tryd.prog 6 #[Slc.v l1] w fun e w' => ∃ r0 : Slc, e = .returned (Slc.v r0) ∧ R r0 w'
theorem C6.mono {l1 : Slc} {w : World} {R R' : Slc → World → Prop} (h : C6 l1 w R) (hr : ∀ r0 w', R r0 w' → R' r0 w') : C6 l1 w R' :=
  Calls.mono h fun _ _ ⟨r0, he, hR⟩ => ⟨r0, he, hr _ _ hR⟩
def C10 (n1 : Int) (w : World) (R : Bool → World → Prop) : Prop :=
  Calls Tryd.prog 10 #[.int .i64 n1] w fun e w' => ∃ r0 : Bool, e = .returned (.bool r0) ∧ R r0 w'
theorem C10.mono {n1 : Int} {w : World} {R R' : Bool → World → Prop} (h : C10 n1 w R) (hr : ∀ r0 w', R r0 w' → R' r0 w') : C10 n1 w R' :=
  Calls.mono h fun _ _ ⟨r0, he, hR⟩ => ⟨r0, he, hr _ _ hR⟩
def C3 (x1 : Int) (y2 : Int) (vw3 : Int) (h4 : Int) (m5 : Int × Int × Int × Int × Int × Int) (dx6 : Int) (dy7 : Int) (w : World) (R : Bool → World → Prop) (PR : Value → World → Prop) : Prop :=
  Calls Tryd.prog 3 #[.int .i64 x1, .int .i64 y2, .int .i64 vw3, .int .i64 h4, .agg #[.int .i64 (m5.1), .int .i64 (m5.2.1), .int .i64 (m5.2.2.1), .int .i64 (m5.2.2.2.1), .int .i64 (m5.2.2.2.2.1), .int .i64 (m5.2.2.2.2.2)], .int .i64 dx6, .int .i64 dy7] w fun e w' => (∃ r0 : Bool, e = .returned (.bool r0) ∧ R r0 w') ∨ ∃ v, e = .panicked (onePanic v) ∧ PR v w'
theorem C3.mono {x1 : Int} {y2 : Int} {vw3 : Int} {h4 : Int} {m5 : Int × Int × Int × Int × Int × Int} {dx6 : Int} {dy7 : Int} {w : World} {R R' : Bool → World → Prop} {PR PR' : Value → World → Prop} (h : C3 x1 y2 vw3 h4 m5 dx6 dy7 w R PR) (hr : ∀ r0 w', R r0 w' → R' r0 w') (hp : ∀ v w', PR v w' → PR' v w') : C3 x1 y2 vw3 h4 m5 dx6 dy7 w R' PR' :=
  Calls.mono h fun _ _ he => he.elim (fun ⟨r0, he, hR⟩ => .inl ⟨r0, he, hr _ _ hR⟩) fun ⟨v, he, hP⟩ => .inr ⟨v, he, hp _ _ hP⟩

def S6L1 (l1 : Slc) (R : Slc → World → Prop) (I4 : (Slc × Int) → World → Prop) (s2 : Slc × Int) (vw3 : World) : Prop :=
  Br (decide (s2.2 < ((l1.len : Nat) : Int))) (0 ≤ s2.2 ∧ s2.2 < (l1.len : Nat) ∧ Nn l1.p fun a5 =>
    Ld vw3 (a5.add ((s2.2).toNat * 1)) (Value.int .i64) fun (x6 : Int) =>
    C28 x6 vw3 fun r7 vw8 =>
      Nw vw8 (.cells #[.int .i64 (r7.1), .int .i64 (r7.2.1), .int .i64 (r7.2.2.1), .string r7.2.2.2.1, Slc.v r7.2.2.2.2.1, Slc.v r7.2.2.2.2.2] 64) fun vw9 =>
      Rn Tryd.prog (Builtin.append_ #[28, 28] 28 #[Slc.v s2.1, Slc.v ((⟨some ⟨vw8.heap.size, 0, none⟩, 1, 1⟩ : Slc))]) vw9 Slc.v fun (x10 : Slc) vw11 =>
      I4 (x10, IntKind.i64.wrap (s2.2 + 1)) vw11) (R s2.1 vw3)
/-- foliant/folianttop.nums -/
def S6 (l1 : Slc) (w : World) (R : Slc → World → Prop) : Prop :=
  Lp (σ := Slc × Int) (S6L1 l1 R) ((⟨none, 0, 0⟩ : Slc), 0) w
def pl6 : Plan := (.seq (.reg .seq) (.seq (.reg .seq) (.seq (.seq (.reg .seq) (.block (.loop [(3, (.one .slc)), (8, (.one (.int .i64)))] [6, 7] (.seq (.reg .seq) (.seq (.cond .leaf .leaf) (.seq (.block (.seq (.reg .seq) (.reg .seq))) (.reg .seq))))))) (.seq (.reg .seq) .leaf))))
set_option maxRecDepth 100000 in
theorem T6 (l1 : Slc) (w : World) (R : Slc → World → Prop) (h : S6 l1 w R) : C6 l1 w R := by
  have e : fnT Tryd.prog ⟨FF, MAY, (fun _ _ => False)⟩ pl6 Tryd.f6 [Slc.v l1] w [(.one .slc)] (fun s w => R s w) = S6 l1 w R := by kernel_rfl
  exact (fn_calls okF okM Tryd.func6 (by kernel_rfl) (by kernel_rfl) (e.mpr h)).mono fun _ _ ⟨s, he, hR⟩ => ⟨s, he, hR⟩

/-- foliant/folianttop.tooFar -/
def S10 (n1 : Int) (w : World) (R : Bool → World → Prop) : Prop :=
  Br (decide (n1 < (-500000000))) (R true w) (R (decide (n1 > 500000000)) w)
def pl10 : Plan := (.seq (.reg .seq) (.seq (.reg .seq) .leaf))
set_option maxRecDepth 100000 in
theorem T10 (n1 : Int) (w : World) (R : Bool → World → Prop) (h : S10 n1 w R) : C10 n1 w R := by
  have e : fnT Tryd.prog ⟨FF, MAY, (fun _ _ => False)⟩ pl10 Tryd.f10 [.int .i64 n1] w [(.one .bool)] (fun s w => R s w) = S10 n1 w R := by kernel_rfl
  exact (fn_calls okF okM Tryd.func10 (by kernel_rfl) (by kernel_rfl) (e.mpr h)).mono fun _ _ ⟨s, he, hR⟩ => ⟨s, he, hR⟩

def S3L1 (w : World) (dx6 : Int) (dy7 : Int) (r79 : Option Addr) (r81 : Option Addr) (r83 : Option Addr) (r302 : Slc) (R : Bool → World → Prop) (PR : Value → World → Prop) (I306 : Int → World → Prop) (s304 : Int) (vw305 : World) : Prop :=
  Br (decide (s304 < ((r302.len : Nat) : Int))) (0 ≤ s304 ∧ s304 < (r302.len : Nat) ∧ Nn r302.p fun a307 =>
    Ld vw305 (a307.add ((s304).toNat * 7)) (Value.int .i64) fun (x308 : Int) =>
    Ld vw305 ((a307.add ((s304).toNat * 7)).add 1) (Value.int .i64) fun (x309 : Int) =>
    Ld vw305 ((a307.add ((s304).toNat * 7)).add 2) (Value.int .i64) fun (x310 : Int) =>
    Ld vw305 ((a307.add ((s304).toNat * 7)).add 3) (Value.int .i64) fun (x311 : Int) =>
    Ld vw305 ((a307.add ((s304).toNat * 7)).add 4) (Value.int .i64) fun (x312 : Int) =>
    Ld vw305 ((a307.add ((s304).toNat * 7)).add 5) (Value.int .i64) fun (x313 : Int) =>
    Ld vw305 ((a307.add ((s304).toNat * 7)).add 6) (Value.int .i64) fun (x314 : Int) =>
    Nw vw305 (.cells #[.int .i64 0, .int .i64 0, .int .i64 0, .int .i64 0, .int .i64 0, .int .i64 0, .int .i64 0] 38) fun vw315 =>
    St vw315 (⟨vw305.heap.size, 0, none⟩ : Addr) (.int .i64 x308) fun vw316 =>
    St vw316 ((⟨vw305.heap.size, 0, none⟩ : Addr).add 1) (.int .i64 x309) fun vw317 =>
    St vw317 ((⟨vw305.heap.size, 0, none⟩ : Addr).add 2) (.int .i64 x310) fun vw318 =>
    St vw318 ((⟨vw305.heap.size, 0, none⟩ : Addr).add 3) (.int .i64 x311) fun vw319 =>
    St vw319 ((⟨vw305.heap.size, 0, none⟩ : Addr).add 4) (.int .i64 x312) fun vw320 =>
    St vw320 ((⟨vw305.heap.size, 0, none⟩ : Addr).add 5) (.int .i64 x313) fun vw321 =>
    St vw321 ((⟨vw305.heap.size, 0, none⟩ : Addr).add 6) (.int .i64 x314) fun vw322 =>
    C8 r83 vw322 fun r323 vw324 =>
      0 ≤ s304 ∧ s304 < (r323.len : Nat) ∧ Nn r323.p fun a325 =>
      Ld vw324 (a325.add ((s304).toNat * 7)) (Value.int .i64) fun (x326 : Int) =>
      Ld vw324 ((a325.add ((s304).toNat * 7)).add 1) (Value.int .i64) fun (x327 : Int) =>
      Ld vw324 ((a325.add ((s304).toNat * 7)).add 2) (Value.int .i64) fun (x328 : Int) =>
      Ld vw324 ((a325.add ((s304).toNat * 7)).add 3) (Value.int .i64) fun (x329 : Int) =>
      Ld vw324 ((a325.add ((s304).toNat * 7)).add 4) (Value.int .i64) fun (x330 : Int) =>
      Ld vw324 ((a325.add ((s304).toNat * 7)).add 5) (Value.int .i64) fun (x331 : Int) =>
      Ld vw324 ((a325.add ((s304).toNat * 7)).add 6) (Value.int .i64) fun (x332 : Int) =>
      Nw vw324 (.cells #[.int .i64 0, .int .i64 0, .int .i64 0, .int .i64 0, .int .i64 0, .int .i64 0, .int .i64 0] 38) fun vw333 =>
      St vw333 (⟨vw324.heap.size, 0, none⟩ : Addr) (.int .i64 x326) fun vw334 =>
      St vw334 ((⟨vw324.heap.size, 0, none⟩ : Addr).add 1) (.int .i64 x327) fun vw335 =>
      St vw335 ((⟨vw324.heap.size, 0, none⟩ : Addr).add 2) (.int .i64 x328) fun vw336 =>
      St vw336 ((⟨vw324.heap.size, 0, none⟩ : Addr).add 3) (.int .i64 x329) fun vw337 =>
      St vw337 ((⟨vw324.heap.size, 0, none⟩ : Addr).add 4) (.int .i64 x330) fun vw338 =>
      St vw338 ((⟨vw324.heap.size, 0, none⟩ : Addr).add 5) (.int .i64 x331) fun vw339 =>
      St vw339 ((⟨vw324.heap.size, 0, none⟩ : Addr).add 6) (.int .i64 x332) fun vw340 =>
      Ld vw340 (⟨vw305.heap.size, 0, none⟩ : Addr) (Value.int .i64) fun (x341 : Int) =>
      Ld vw340 (⟨vw324.heap.size, 0, none⟩ : Addr) (Value.int .i64) fun (x342 : Int) =>
      Br (x341 != x342) (R false vw340) (Ld vw340 (⟨vw305.heap.size, 0, none⟩ : Addr) (Value.int .i64) fun (x343 : Int) =>
        Br (x343 != 4) (Ld vw340 ((⟨vw305.heap.size, 0, none⟩ : Addr).add 5) (Value.int .i64) fun (x344 : Int) =>
          Ld vw340 ((⟨vw324.heap.size, 0, none⟩ : Addr).add 5) (Value.int .i64) fun (x345 : Int) =>
          Br ((IntKind.i64.wrap (x344 + dx6)) != x345) (R false vw340) (Ld vw340 (((⟨vw305.heap.size, 0, none⟩ : Addr).add 5).add 1) (Value.int .i64) fun (x346 : Int) =>
            Ld vw340 (((⟨vw324.heap.size, 0, none⟩ : Addr).add 5).add 1) (Value.int .i64) fun (x347 : Int) =>
            Br ((IntKind.i64.wrap (x346 + dy7)) != x347) (R false vw340) (I306 (IntKind.i64.wrap (s304 + 1)) vw340))) (I306 (IntKind.i64.wrap (s304 + 1)) vw340))) (C8 r79 vw305 fun r348 vw349 =>
      C14 r348 vw349 fun r350 r351 vw352 =>
        Nw vw352 (.cells #[.int .i64 0, .int .i64 0, .int .i64 0, .int .i64 0] 46) fun vw353 =>
        St vw353 (⟨vw352.heap.size, 0, none⟩ : Addr) (.int .i64 (r350.1)) fun vw354 =>
        St vw354 ((⟨vw352.heap.size, 0, none⟩ : Addr).add 1) (.int .i64 (r350.2.1)) fun vw355 =>
        St vw355 ((⟨vw352.heap.size, 0, none⟩ : Addr).add 2) (.int .i64 (r350.2.2.1)) fun vw356 =>
        St vw356 ((⟨vw352.heap.size, 0, none⟩ : Addr).add 3) (.int .i64 (r350.2.2.2)) fun vw357 =>
        C8 r83 vw357 fun r358 vw359 =>
          C14 r358 vw359 fun r360 r361 vw362 =>
            Nw vw362 (.cells #[.int .i64 0, .int .i64 0, .int .i64 0, .int .i64 0] 46) fun vw363 =>
            St vw363 (⟨vw362.heap.size, 0, none⟩ : Addr) (.int .i64 (r360.1)) fun vw364 =>
            St vw364 ((⟨vw362.heap.size, 0, none⟩ : Addr).add 1) (.int .i64 (r360.2.1)) fun vw365 =>
            St vw365 ((⟨vw362.heap.size, 0, none⟩ : Addr).add 2) (.int .i64 (r360.2.2.1)) fun vw366 =>
            St vw366 ((⟨vw362.heap.size, 0, none⟩ : Addr).add 3) (.int .i64 (r360.2.2.2)) fun vw367 =>
            Br (!r351) (R false vw367) (Br (!r361) (R false vw367) (Ld vw367 (⟨vw352.heap.size, 0, none⟩ : Addr) (Value.int .i64) fun (x372 : Int) =>
                Ld vw367 (⟨vw362.heap.size, 0, none⟩ : Addr) (Value.int .i64) fun (x373 : Int) =>
                Br ((IntKind.i64.wrap (x372 + dx6)) != x373) (R false vw367) (Ld vw367 ((⟨vw352.heap.size, 0, none⟩ : Addr).add 3) (Value.int .i64) fun (x374 : Int) =>
                  Ld vw367 ((⟨vw362.heap.size, 0, none⟩ : Addr).add 3) (Value.int .i64) fun (x375 : Int) =>
                  Br ((IntKind.i64.wrap (x374 + dy7)) != x375) (R false vw367) (Ld vw367 (⟨w.heap.size, 0, none⟩ : Addr) (Value.int .i64) fun (x376 : Int) =>
                    Ld vw367 ((⟨w.heap.size, 0, none⟩ : Addr).add 1) (Value.int .i64) fun (x377 : Int) =>
                    Ld vw367 ((⟨w.heap.size, 0, none⟩ : Addr).add 2) (Value.int .i64) fun (x378 : Int) =>
                    Ld vw367 ((⟨w.heap.size, 0, none⟩ : Addr).add 3) (Value.int .i64) fun (x379 : Int) =>
                    Ld vw367 ((⟨w.heap.size, 0, none⟩ : Addr).add 4) (Value.int .i64) fun (x380 : Int) =>
                    Ld vw367 ((⟨w.heap.size, 0, none⟩ : Addr).add 5) (Value.int .i64) fun (x381 : Int) =>
                    C16 (x376, x377, x378, x379, x380, x381) vw367 fun r382 vw383 =>
                      C15 r79 ((⟨#[102]⟩ : ByteArray), (⟨none, 0, 0⟩ : Slc), (⟨#[]⟩ : ByteArray)) r382 vw383 fun r384 r385 r386 vw387 =>
                        Nw vw387 (.cells #[.int .i64 0, Slc.v ((⟨none, 0, 0⟩ : Slc)), .int .i64 0, .int .i64 0, .int .i64 0, .int .i64 0, .int .i64 0, .int .i64 0, .int .i64 0, .int .i64 0, .int .i64 0, .int .i64 0] 52) fun vw388 =>
                        StT (⟨vw387.heap.size, 0, none⟩ : Addr) 0 LiA51 r384 vw388 fun vw389 =>
                        ∃ vS390 : World → Prop, vS390 vw389.drew ∧ Br (r386 == 0) (Br r385 (LdS vS390 (⟨vw387.heap.size, 0, none⟩ : Addr) (Value.int .i64) fun (x391 : Int) =>
                            Br (x391 == 1) (LdS vS390 ((⟨vw387.heap.size, 0, none⟩ : Addr).add 1) Slc.v fun (x392 : Slc) =>
                              C8 r81 vw389.drew fun r393 vw394 =>
                                vS390 vw394 ∧ C11 x392 r393 vw394 fun r395 vw396 =>
                                  Br r395 (C8 r79 vw396 fun r397 vw398 =>
                                      ∃ vS399 : World → Prop, vS399 vw398 ∧ Br (((r397.len : Nat) : Int) == 0) (LdS vS399 (⟨w.heap.size, 0, none⟩ : Addr) (Value.int .i64) fun (x400 : Int) =>
                                        LdS vS399 ((⟨w.heap.size, 0, none⟩ : Addr).add 1) (Value.int .i64) fun (x401 : Int) =>
                                        LdS vS399 ((⟨w.heap.size, 0, none⟩ : Addr).add 2) (Value.int .i64) fun (x402 : Int) =>
                                        LdS vS399 ((⟨w.heap.size, 0, none⟩ : Addr).add 3) (Value.int .i64) fun (x403 : Int) =>
                                        LdS vS399 ((⟨w.heap.size, 0, none⟩ : Addr).add 4) (Value.int .i64) fun (x404 : Int) =>
                                        LdS vS399 ((⟨w.heap.size, 0, none⟩ : Addr).add 5) (Value.int .i64) fun (x405 : Int) =>
                                        C18 (x400, x401, x402, x403, x404, x405) vw398 fun r406 vw407 =>
                                          C17 (r406.1, r406.2.1, r406.2.2.1, r406.2.2.2.1, r406.2.2.2.2.1, r406.2.2.2.2.2) vw407 (fun r408 vw409 =>
                                            R (r408 == 0) vw409) PR) (R false vw398)) (∃ vS410 : World → Prop, vS410 vw396 ∧ R false vw396)) (∃ vS411 : World → Prop, vS411 vw389.drew ∧ R false vw389.drew)) (∃ vS412 : World → Prop, vS412 vw389.drew ∧ R false vw389.drew)) (∃ vS413 : World → Prop, vS413 vw389.drew ∧ R false vw389.drew))))))
def S3J1 (w : World) (x1 : Int) (y2 : Int) (vw3 : Int) (h4 : Int) (dx6 : Int) (dy7 : Int) (r79 : Option Addr) (r81 : Option Addr) (r83 : Option Addr) (R : Bool → World → Prop) (PR : Value → World → Prop) (s230 : Addr × Int) (vw231 : World) : Prop :=
  ∃ vS244 : World → Prop, vS244 vw231.drew ∧ Br (s230.2 != 0) (R true vw231.drew) (LdS vS244 s230.1 (Value.int .i64) fun (x245 : Int) =>
    LdS vS244 (s230.1.add 1) (Value.int .i64) fun (x246 : Int) =>
    LdS vS244 (s230.1.add 2) (Value.int .i64) fun (x247 : Int) =>
    LdS vS244 (s230.1.add 3) (Value.int .i64) fun (x248 : Int) =>
    LdS vS244 (s230.1.add 4) (Value.int .i64) fun (x249 : Int) =>
    LdS vS244 (s230.1.add 5) (Value.int .i64) fun (x250 : Int) =>
    Nw vw231.drew (.cells #[.int .i64 x1, .int .i64 y2, .int .i64 vw3, .int .i64 h4] 2) fun vw251 =>
    vS244 vw251 ∧ C6 (⟨some ⟨vw231.drew.heap.size, 0, none⟩, 4, 4⟩ : Slc) vw251 fun r252 vw253 =>
      vS244 vw253 ∧ vS244 vw253 ∧ C5 r83 ((⟨#[114, 101]⟩ : ByteArray), r252, (⟨#[]⟩ : ByteArray)) (x245, x246, x247, x248, x249, x250) vw253 fun r254 vw255 =>
        Br (r254 != 0) (R true vw255) (C8 r79 vw255 fun r302 vw303 =>
            Lp (σ := Int) (S3L1 w dx6 dy7 r79 r81 r83 r302 R PR) 0 vw303))
def S3J2 (w : World) (x1 : Int) (y2 : Int) (vw3 : Int) (h4 : Int) (dx6 : Int) (dy7 : Int) (r79 : Option Addr) (r81 : Option Addr) (r83 : Option Addr) (r95 : Int) (R : Bool → World → Prop) (PR : Value → World → Prop) (s183 : Unit) (vw184 : World) : Prop :=
  Br (r95 != 0) (C8 r79 vw184 fun r187 vw188 =>
      R (((r187.len : Nat) : Int) == 0) vw188) (Join (S3J1 w x1 y2 vw3 h4 dx6 dy7 r79 r81 r83 R PR) fun (vJ414 : (Addr × Int) → World → Prop) =>
      ∃ vS415 : World → Prop, vS415 vw184.drew ∧ LdS vS415 (⟨w.heap.size, 0, none⟩ : Addr) (Value.int .i64) fun (x416 : Int) =>
      LdS vS415 ((⟨w.heap.size, 0, none⟩ : Addr).add 1) (Value.int .i64) fun (x417 : Int) =>
      LdS vS415 ((⟨w.heap.size, 0, none⟩ : Addr).add 2) (Value.int .i64) fun (x418 : Int) =>
      LdS vS415 ((⟨w.heap.size, 0, none⟩ : Addr).add 3) (Value.int .i64) fun (x419 : Int) =>
      LdS vS415 ((⟨w.heap.size, 0, none⟩ : Addr).add 4) (Value.int .i64) fun (x420 : Int) =>
      LdS vS415 ((⟨w.heap.size, 0, none⟩ : Addr).add 5) (Value.int .i64) fun (x421 : Int) =>
      (C13 dx6 dy7 vw184.drew fun r422 vw423 =>
          vS415 vw423 ∧ (C12 (x416, x417, x418, x419, x420, x421) (r422.1, r422.2.1, r422.2.2.1, r422.2.2.2.1, r422.2.2.2.2.1, r422.2.2.2.2.2) vw423 fun r424 r425 vw426 =>
              Nw vw426 (.cells #[.int .i64 0, .int .i64 0, .int .i64 0, .int .i64 0, .int .i64 0, .int .i64 0] 23) fun vw427 =>
              St vw427 (⟨vw426.heap.size, 0, none⟩ : Addr) (.int .i64 (r424.1)) fun vw428 =>
              St vw428 ((⟨vw426.heap.size, 0, none⟩ : Addr).add 1) (.int .i64 (r424.2.1)) fun vw429 =>
              St vw429 ((⟨vw426.heap.size, 0, none⟩ : Addr).add 2) (.int .i64 (r424.2.2.1)) fun vw430 =>
              St vw430 ((⟨vw426.heap.size, 0, none⟩ : Addr).add 3) (.int .i64 (r424.2.2.2.1)) fun vw431 =>
              St vw431 ((⟨vw426.heap.size, 0, none⟩ : Addr).add 4) (.int .i64 (r424.2.2.2.2.1)) fun vw432 =>
              St vw432 ((⟨vw426.heap.size, 0, none⟩ : Addr).add 5) (.int .i64 (r424.2.2.2.2.2)) fun vw433 =>
              vJ414 ((⟨vw426.heap.size, 0, none⟩ : Addr), r425) vw433) ∧
          (Nw vw423 (.cells #[.int .i64 0, .int .i64 0, .int .i64 0, .int .i64 0, .int .i64 0, .int .i64 0] 23) fun vw434 =>
            vS415 vw434 ∧ C12 (x416, x417, x418, x419, x420, x421) (r422.1, r422.2.1, r422.2.2.1, r422.2.2.2.1, r422.2.2.2.2.1, r422.2.2.2.2.2) vw434 fun r435 r436 vw437 =>
              St vw437 (⟨vw423.heap.size, 0, none⟩ : Addr) (.int .i64 (r435.1)) fun vw438 =>
              St vw438 ((⟨vw423.heap.size, 0, none⟩ : Addr).add 1) (.int .i64 (r435.2.1)) fun vw439 =>
              St vw439 ((⟨vw423.heap.size, 0, none⟩ : Addr).add 2) (.int .i64 (r435.2.2.1)) fun vw440 =>
              St vw440 ((⟨vw423.heap.size, 0, none⟩ : Addr).add 3) (.int .i64 (r435.2.2.2.1)) fun vw441 =>
              St vw441 ((⟨vw423.heap.size, 0, none⟩ : Addr).add 4) (.int .i64 (r435.2.2.2.2.1)) fun vw442 =>
              St vw442 ((⟨vw423.heap.size, 0, none⟩ : Addr).add 5) (.int .i64 (r435.2.2.2.2.2)) fun vw443 =>
              vJ414 ((⟨vw423.heap.size, 0, none⟩ : Addr), r436) vw443)) ∧
      (Nw vw184.drew (.cells #[.int .i64 0, .int .i64 0, .int .i64 0, .int .i64 0, .int .i64 0, .int .i64 0] 23) fun vw444 =>
        vS415 vw444 ∧ C13 dx6 dy7 vw444 fun r445 vw446 =>
          vS415 vw446 ∧ C12 (x416, x417, x418, x419, x420, x421) (r445.1, r445.2.1, r445.2.2.1, r445.2.2.2.1, r445.2.2.2.2.1, r445.2.2.2.2.2) vw446 fun r447 r448 vw449 =>
            St vw449 (⟨vw184.drew.heap.size, 0, none⟩ : Addr) (.int .i64 (r447.1)) fun vw450 =>
            St vw450 ((⟨vw184.drew.heap.size, 0, none⟩ : Addr).add 1) (.int .i64 (r447.2.1)) fun vw451 =>
            St vw451 ((⟨vw184.drew.heap.size, 0, none⟩ : Addr).add 2) (.int .i64 (r447.2.2.1)) fun vw452 =>
            St vw452 ((⟨vw184.drew.heap.size, 0, none⟩ : Addr).add 3) (.int .i64 (r447.2.2.2.1)) fun vw453 =>
            St vw453 ((⟨vw184.drew.heap.size, 0, none⟩ : Addr).add 4) (.int .i64 (r447.2.2.2.2.1)) fun vw454 =>
            St vw454 ((⟨vw184.drew.heap.size, 0, none⟩ : Addr).add 5) (.int .i64 (r447.2.2.2.2.2)) fun vw455 =>
            vJ414 ((⟨vw184.drew.heap.size, 0, none⟩ : Addr), r448) vw455))
/-- foliant/folianttop.TopPaths -/
def S3 (x1 : Int) (y2 : Int) (vw3 : Int) (h4 : Int) (m5 : Int × Int × Int × Int × Int × Int) (dx6 : Int) (dy7 : Int) (w : World) (R : Bool → World → Prop) (PR : Value → World → Prop) : Prop :=
  Nw w (.cells #[.int .i64 (m5.1), .int .i64 (m5.2.1), .int .i64 (m5.2.2.1), .int .i64 (m5.2.2.2.1), .int .i64 (m5.2.2.2.2.1), .int .i64 (m5.2.2.2.2.2)] 23) fun vw8 =>
  C4 vw8 fun r9 vw10 =>
    Br r9.isNone (R false vw10) (Nw vw10 (.cells #[.int .i64 1, .int .i64 2] 2) fun vw25 =>
      C6 (⟨some ⟨vw10.heap.size, 0, none⟩, 2, 2⟩ : Slc) vw25 fun r26 vw27 =>
        C7 vw27 fun r28 vw29 =>
          C5 r9 ((⟨#[109]⟩ : ByteArray), r26, (⟨#[]⟩ : ByteArray)) (r28.1, r28.2.1, r28.2.2.1, r28.2.2.2.1, r28.2.2.2.2.1, r28.2.2.2.2.2) vw29 fun r30 vw31 =>
            Br (r30 != 0) (R false vw31) (C8 r9 vw31 fun r32 vw33 =>
                Br (((r32.len : Nat) : Int) != 1) (R false vw33) (C8 r9 vw33 fun r34 vw35 =>
                    0 ≤ (0 : Int) ∧ (0 : Int) < (r34.len : Nat) ∧ Nn r34.p fun a36 =>
                    Ld vw35 ((a36.add (((0 : Int)).toNat * 7)).add 5) (Value.int .i64) fun (x37 : Int) =>
                    Ld vw35 (((a36.add (((0 : Int)).toNat * 7)).add 5).add 1) (Value.int .i64) fun (x38 : Int) =>
                    Br (!((x37 == 1) && ((x38 == 2) && true))) (R false vw35) (Ld vw35 (⟨w.heap.size, 0, none⟩ : Addr) (Value.int .i64) fun (x59 : Int) =>
                      Ld vw35 ((⟨w.heap.size, 0, none⟩ : Addr).add 1) (Value.int .i64) fun (x60 : Int) =>
                      Ld vw35 ((⟨w.heap.size, 0, none⟩ : Addr).add 2) (Value.int .i64) fun (x61 : Int) =>
                      Ld vw35 ((⟨w.heap.size, 0, none⟩ : Addr).add 3) (Value.int .i64) fun (x62 : Int) =>
                      Ld vw35 ((⟨w.heap.size, 0, none⟩ : Addr).add 4) (Value.int .i64) fun (x63 : Int) =>
                      Ld vw35 ((⟨w.heap.size, 0, none⟩ : Addr).add 5) (Value.int .i64) fun (x64 : Int) =>
                      C9 (x59, x60, x61, x62, x63, x64) vw35 fun r65 vw66 =>
                        Br (r65 != 0) (R true vw66) (C10 x1 vw66 fun r67 vw68 =>
                            Br r67 (R true vw68) (C10 y2 vw68 fun r69 vw70 =>
                                Br r69 (R true vw70) (C10 vw3 vw70 fun r71 vw72 =>
                                    Br r71 (R true vw72) (C10 h4 vw72 fun r73 vw74 =>
                                        Br r73 (R true vw74) (C10 dx6 vw74 fun r75 vw76 =>
                                            Br r75 (R true vw76) (C10 dy7 vw76 fun r77 vw78 =>
                                                Br r77 (R true vw78) (C4 vw78 fun r79 vw80 =>
                                                    C4 vw80 fun r81 vw82 =>
                                                      C4 vw82 fun r83 vw84 =>
                                                        Br r79.isNone (R false vw84) (Br r81.isNone (R false vw84) (Br r83.isNone (R false vw84) (∃ vS85 : World → Prop, vS85 vw84.drew ∧ LdS vS85 (⟨w.heap.size, 0, none⟩ : Addr) (Value.int .i64) fun (x86 : Int) =>
                                                              LdS vS85 ((⟨w.heap.size, 0, none⟩ : Addr).add 1) (Value.int .i64) fun (x87 : Int) =>
                                                              LdS vS85 ((⟨w.heap.size, 0, none⟩ : Addr).add 2) (Value.int .i64) fun (x88 : Int) =>
                                                              LdS vS85 ((⟨w.heap.size, 0, none⟩ : Addr).add 3) (Value.int .i64) fun (x89 : Int) =>
                                                              LdS vS85 ((⟨w.heap.size, 0, none⟩ : Addr).add 4) (Value.int .i64) fun (x90 : Int) =>
                                                              LdS vS85 ((⟨w.heap.size, 0, none⟩ : Addr).add 5) (Value.int .i64) fun (x91 : Int) =>
                                                              Nw vw84.drew (.cells #[.int .i64 x1, .int .i64 y2, .int .i64 vw3, .int .i64 h4] 2) fun vw92 =>
                                                              vS85 vw92 ∧ C6 (⟨some ⟨vw84.drew.heap.size, 0, none⟩, 4, 4⟩ : Slc) vw92 fun r93 vw94 =>
                                                                vS85 vw94 ∧ vS85 vw94 ∧ C5 r79 ((⟨#[114, 101]⟩ : ByteArray), r93, (⟨#[]⟩ : ByteArray)) (x86, x87, x88, x89, x90, x91) vw94 fun r95 vw96 =>
                                                                  ∃ vS97 : World → Prop, vS97 vw96.drew ∧ LdS vS97 (⟨w.heap.size, 0, none⟩ : Addr) (Value.int .i64) fun (x98 : Int) =>
                                                                  LdS vS97 ((⟨w.heap.size, 0, none⟩ : Addr).add 1) (Value.int .i64) fun (x99 : Int) =>
                                                                  LdS vS97 ((⟨w.heap.size, 0, none⟩ : Addr).add 2) (Value.int .i64) fun (x100 : Int) =>
                                                                  LdS vS97 ((⟨w.heap.size, 0, none⟩ : Addr).add 3) (Value.int .i64) fun (x101 : Int) =>
                                                                  LdS vS97 ((⟨w.heap.size, 0, none⟩ : Addr).add 4) (Value.int .i64) fun (x102 : Int) =>
                                                                  LdS vS97 ((⟨w.heap.size, 0, none⟩ : Addr).add 5) (Value.int .i64) fun (x103 : Int) =>
                                                                  Nw vw96.drew (.cells #[.int .i64 x1, .int .i64 y2] 2) fun vw104 =>
                                                                  vS97 vw104 ∧ C6 (⟨some ⟨vw96.drew.heap.size, 0, none⟩, 2, 2⟩ : Slc) vw104 fun r105 vw106 =>
                                                                    vS97 vw106 ∧ vS97 vw106 ∧ C5 r81 ((⟨#[109]⟩ : ByteArray), r105, (⟨#[]⟩ : ByteArray)) (x98, x99, x100, x101, x102, x103) vw106 fun r107 vw108 =>
                                                                      ∃ vS109 : World → Prop, vS109 vw108.drew ∧ LdS vS109 (⟨w.heap.size, 0, none⟩ : Addr) (Value.int .i64) fun (x110 : Int) =>
                                                                      LdS vS109 ((⟨w.heap.size, 0, none⟩ : Addr).add 1) (Value.int .i64) fun (x111 : Int) =>
                                                                      LdS vS109 ((⟨w.heap.size, 0, none⟩ : Addr).add 2) (Value.int .i64) fun (x112 : Int) =>
                                                                      LdS vS109 ((⟨w.heap.size, 0, none⟩ : Addr).add 3) (Value.int .i64) fun (x113 : Int) =>
                                                                      LdS vS109 ((⟨w.heap.size, 0, none⟩ : Addr).add 4) (Value.int .i64) fun (x114 : Int) =>
                                                                      LdS vS109 ((⟨w.heap.size, 0, none⟩ : Addr).add 5) (Value.int .i64) fun (x115 : Int) =>
                                                                      Nw vw108.drew (.cells #[.int .i64 (IntKind.i64.wrap (x1 + vw3)), .int .i64 y2] 2) fun vw116 =>
                                                                      vS109 vw116 ∧ C6 (⟨some ⟨vw108.drew.heap.size, 0, none⟩, 2, 2⟩ : Slc) vw116 fun r117 vw118 =>
                                                                        vS109 vw118 ∧ vS109 vw118 ∧ C5 r81 ((⟨#[108]⟩ : ByteArray), r117, (⟨#[]⟩ : ByteArray)) (x110, x111, x112, x113, x114, x115) vw118 fun r119 vw120 =>
                                                                          ∃ vS121 : World → Prop, vS121 vw120.drew ∧ LdS vS121 (⟨w.heap.size, 0, none⟩ : Addr) (Value.int .i64) fun (x122 : Int) =>
                                                                          LdS vS121 ((⟨w.heap.size, 0, none⟩ : Addr).add 1) (Value.int .i64) fun (x123 : Int) =>
                                                                          LdS vS121 ((⟨w.heap.size, 0, none⟩ : Addr).add 2) (Value.int .i64) fun (x124 : Int) =>
                                                                          LdS vS121 ((⟨w.heap.size, 0, none⟩ : Addr).add 3) (Value.int .i64) fun (x125 : Int) =>
                                                                          LdS vS121 ((⟨w.heap.size, 0, none⟩ : Addr).add 4) (Value.int .i64) fun (x126 : Int) =>
                                                                          LdS vS121 ((⟨w.heap.size, 0, none⟩ : Addr).add 5) (Value.int .i64) fun (x127 : Int) =>
                                                                          Nw vw120.drew (.cells #[.int .i64 (IntKind.i64.wrap (x1 + vw3)), .int .i64 (IntKind.i64.wrap (y2 + h4))] 2) fun vw128 =>
                                                                          vS121 vw128 ∧ C6 (⟨some ⟨vw120.drew.heap.size, 0, none⟩, 2, 2⟩ : Slc) vw128 fun r129 vw130 =>
                                                                            vS121 vw130 ∧ vS121 vw130 ∧ C5 r81 ((⟨#[108]⟩ : ByteArray), r129, (⟨#[]⟩ : ByteArray)) (x122, x123, x124, x125, x126, x127) vw130 fun r131 vw132 =>
                                                                              ∃ vS133 : World → Prop, vS133 vw132.drew ∧ LdS vS133 (⟨w.heap.size, 0, none⟩ : Addr) (Value.int .i64) fun (x134 : Int) =>
                                                                              LdS vS133 ((⟨w.heap.size, 0, none⟩ : Addr).add 1) (Value.int .i64) fun (x135 : Int) =>
                                                                              LdS vS133 ((⟨w.heap.size, 0, none⟩ : Addr).add 2) (Value.int .i64) fun (x136 : Int) =>
                                                                              LdS vS133 ((⟨w.heap.size, 0, none⟩ : Addr).add 3) (Value.int .i64) fun (x137 : Int) =>
                                                                              LdS vS133 ((⟨w.heap.size, 0, none⟩ : Addr).add 4) (Value.int .i64) fun (x138 : Int) =>
                                                                              LdS vS133 ((⟨w.heap.size, 0, none⟩ : Addr).add 5) (Value.int .i64) fun (x139 : Int) =>
                                                                              Nw vw132.drew (.cells #[.int .i64 x1, .int .i64 (IntKind.i64.wrap (y2 + h4))] 2) fun vw140 =>
                                                                              vS133 vw140 ∧ C6 (⟨some ⟨vw132.drew.heap.size, 0, none⟩, 2, 2⟩ : Slc) vw140 fun r141 vw142 =>
                                                                                vS133 vw142 ∧ vS133 vw142 ∧ C5 r81 ((⟨#[108]⟩ : ByteArray), r141, (⟨#[]⟩ : ByteArray)) (x134, x135, x136, x137, x138, x139) vw142 fun r143 vw144 =>
                                                                                  Ld vw144 (⟨w.heap.size, 0, none⟩ : Addr) (Value.int .i64) fun (x145 : Int) =>
                                                                                  Ld vw144 ((⟨w.heap.size, 0, none⟩ : Addr).add 1) (Value.int .i64) fun (x146 : Int) =>
                                                                                  Ld vw144 ((⟨w.heap.size, 0, none⟩ : Addr).add 2) (Value.int .i64) fun (x147 : Int) =>
                                                                                  Ld vw144 ((⟨w.heap.size, 0, none⟩ : Addr).add 3) (Value.int .i64) fun (x148 : Int) =>
                                                                                  Ld vw144 ((⟨w.heap.size, 0, none⟩ : Addr).add 4) (Value.int .i64) fun (x149 : Int) =>
                                                                                  Ld vw144 ((⟨w.heap.size, 0, none⟩ : Addr).add 5) (Value.int .i64) fun (x150 : Int) =>
                                                                                  C5 r81 ((⟨#[104]⟩ : ByteArray), (⟨none, 0, 0⟩ : Slc), (⟨#[]⟩ : ByteArray)) (x145, x146, x147, x148, x149, x150) vw144 fun r151 vw152 =>
                                                                                    Join (S3J2 w x1 y2 vw3 h4 dx6 dy7 r79 r81 r83 r95 R PR) fun (vJ456 : Unit → World → Prop) =>
                                                                                      Br (r107 == 0) (Br (r119 == 0) (Br (r131 == 0) (Br (r143 == 0) (Br (!((r95 == 0) == (r151 == 0))) (R false vw152) (Br (r95 == 0) (C8 r79 vw152 fun r457 vw458 =>
                                                                                                    C8 r81 vw458 fun r459 vw460 =>
                                                                                                      C11 r457 r459 vw460 fun r461 vw462 =>
                                                                                                        Br (!r461) (R false vw462) (vJ456 () vw462)) (vJ456 () vw152))) (Br (!((r95 == 0) == false)) (R false vw152) (Br (r95 == 0) (C8 r79 vw152 fun r463 vw464 =>
                                                                                                    C8 r81 vw464 fun r465 vw466 =>
                                                                                                      C11 r463 r465 vw466 fun r467 vw468 =>
                                                                                                        Br (!r467) (R false vw468) (vJ456 () vw468)) (vJ456 () vw152)))) (Br (!((r95 == 0) == false)) (R false vw152) (Br (r95 == 0) (C8 r79 vw152 fun r469 vw470 =>
                                                                                                  C8 r81 vw470 fun r471 vw472 =>
                                                                                                    C11 r469 r471 vw472 fun r473 vw474 =>
                                                                                                      Br (!r473) (R false vw474) (vJ456 () vw474)) (vJ456 () vw152)))) (Br (!((r95 == 0) == false)) (R false vw152) (Br (r95 == 0) (C8 r79 vw152 fun r475 vw476 =>
                                                                                                C8 r81 vw476 fun r477 vw478 =>
                                                                                                  C11 r475 r477 vw478 fun r479 vw480 =>
                                                                                                    Br (!r479) (R false vw480) (vJ456 () vw480)) (vJ456 () vw152)))) (Br (!((r95 == 0) == false)) (R false vw152) (Br (r95 == 0) (C8 r79 vw152 fun r481 vw482 =>
                                                                                              C8 r81 vw482 fun r483 vw484 =>
                                                                                                C11 r481 r483 vw484 fun r485 vw486 =>
                                                                                                  Br (!r485) (R false vw486) (vJ456 () vw486)) (vJ456 () vw152)))))))))))))))))
def pl3 : Plan := (.seq (.reg .seq) (.seq (.reg .seq) (.seq (.seq (.reg .seq) (.cond (.seq (.reg .seq) .leaf) .leaf)) (.seq (.seq (.reg .seq) (.cond (.seq (.reg .seq) .leaf) .leaf)) (.seq (.reg .seq) (.seq (.seq (.reg .seq) (.cond (.seq (.reg .seq) .leaf) .leaf)) (.seq (.reg (.held [9] (.take 0 (.take 1 (.take 2 (.take 3 (.take 4 (.take 8 (.eff 5 none (.eff 6 none (.eff 7 none (.eff 9 (some []) (.take 10 .done))))))))))))) (.seq (.reg (.held [7] (.take 0 (.take 1 (.take 2 (.take 6 (.eff 3 none (.eff 4 none (.eff 5 none (.eff 7 (some []) (.take 8 .done))))))))))) (.seq (.reg (.held [9] (.take 0 (.take 1 (.take 2 (.take 3 (.take 4 (.take 8 (.eff 5 none (.eff 6 none (.eff 7 none (.eff 9 (some []) (.take 10 .done))))))))))))) (.seq (.reg (.held [11] (.take 0 (.take 1 (.take 2 (.take 3 (.take 4 (.take 5 (.take 6 (.take 10 (.eff 7 none (.eff 8 none (.eff 9 none (.eff 11 (some []) (.take 12 .done))))))))))))))) (.seq (.reg (.held [9] (.take 0 (.take 1 (.take 2 (.take 3 (.take 4 (.take 8 (.eff 5 none (.eff 6 none (.eff 7 none (.eff 9 (some []) (.take 10 .done))))))))))))) (.seq (.reg .seq) (.join [] [0, 1, 2, 3, 5, 6, 11, 16, 17, 18, 19] (.seq (.reg .seq) (.cond (.seq (.reg .seq) .leaf) .leaf)) (.seq (.seq (.reg .seq) (.cond (.seq (.reg .seq) .leaf) .leaf)) (.join [(25, (.one .addr)), (26, (.one (.int .i64)))] [0, 1, 2, 3, 5, 6, 11, 16, 17, 18] (.reg (.held [4] (.take 0 (.take 1 (.take 2 (.effs 3 none (.effs 4 (some [8]) (.take 5 (.take 6 (.take 7 (.eff 8 (some [9]) (.eff 9 (some []) (.take 10 .done)))))) (.eff 8 none (.eff 4 (some [9]) (.take 5 (.take 6 (.take 7 (.eff 9 (some []) (.take 10 .done)))))))) (.eff 8 none (.eff 3 none (.eff 4 (some [9]) (.take 5 (.take 6 (.take 7 (.eff 9 (some []) (.take 10 .done)))))))))))))) (.seq (.seq (.reg (.held [12] (.take 0 (.take 1 (.take 2 (.take 3 (.take 4 (.take 5 (.take 6 (.take 7 (.take 11 (.eff 8 none (.eff 9 none (.eff 10 none (.eff 12 (some []) (.take 13 (.take 14 .done))))))))))))))))) (.cond (.seq (.reg .seq) .leaf) .leaf)) (.seq (.seq (.reg .seq) (.block (.loop [(223, (.one (.int .i64)))] [5, 6, 11, 16, 17, 18, 221, 222] (.seq (.reg .seq) (.seq (.cond .leaf .leaf) (.seq (.block (.seq (.reg .seq) (.seq (.reg .seq) (.seq (.reg .seq) (.cond (.seq (.reg .seq) .leaf) .leaf))))) (.reg .seq))))))) (.seq (.reg .seq) (.seq (.reg .seq) (.seq (.seq (.reg .seq) (.cond (.seq (.reg .seq) .leaf) .leaf)) (.seq (.reg .seq) (.seq (.reg (.held [15] (.take 0 (.take 1 (.take 2 (.take 3 (.take 4 (.take 5 (.take 6 (.take 7 (.take 8 (.take 9 (.take 10 (.take 11 (.take 12 (.take 13 (.eff 14 none (.eff 15 (some [19]) (.take 16 (.take 17 (.take 18 (.eff 19 (some [25]) (.take 20 (.take 21 (.take 22 (.take 23 (.take 24 (.eff 25 (some [26]) (.eff 26 (some []) (.take 27 (.take 28 (.take 29 .done)))))))))))))))))))))))))))))))) .leaf))))))))))))))))))))))
set_option maxRecDepth 100000 in
theorem T3 (x1 : Int) (y2 : Int) (vw3 : Int) (h4 : Int) (m5 : Int × Int × Int × Int × Int × Int) (dx6 : Int) (dy7 : Int) (w : World) (R : Bool → World → Prop) (PR : Value → World → Prop) (h : S3 x1 y2 vw3 h4 m5 dx6 dy7 w R PR) : C3 x1 y2 vw3 h4 (m5.1, m5.2.1, m5.2.2.1, m5.2.2.2.1, m5.2.2.2.2.1, m5.2.2.2.2.2) dx6 dy7 w R PR := by
  have e : fnT Tryd.prog ⟨FF, MAY, PR⟩ pl3 Tryd.f3 [.int .i64 x1, .int .i64 y2, .int .i64 vw3, .int .i64 h4, .agg #[.int .i64 (m5.1), .int .i64 (m5.2.1), .int .i64 (m5.2.2.1), .int .i64 (m5.2.2.2.1), .int .i64 (m5.2.2.2.2.1), .int .i64 (m5.2.2.2.2.2)], .int .i64 dx6, .int .i64 dy7] w [(.one .bool)] (fun s w => R s w) = S3 x1 y2 vw3 h4 m5 dx6 dy7 w R PR := by kernel_rfl
  exact (fn_callsP okF okM Tryd.func3 (by kernel_rfl) (by kernel_rfl) (e.mpr h)).mono fun _ _ he => he.elim (fun ⟨s, he, hR⟩ => .inl ⟨s, he, hR⟩) .inr

end Go.Proofs.YtdchpkbpnfoknaaDoor

/- Paths: three paths in memory, operators with numbers. Conditions: the tables are laid. -/
namespace Go.Proofs.YtdchpkbpnfoknaaDoor
namespace Pat
open Sh Mat Fix Opr
set_option linter.unusedVariables false
set_option linter.unusedSimpArgs false
set_option maxRecDepth 8000
set_option maxHeartbeats 4000000
section
variable {w0 w w' w1 : World} {ns : Slc} {l : List Int}
attribute [local irreducible] Ld Sh.St Nw Nn LdS LdT LdST StT
theorem c_nums10 (h : IV w ns l) (hl : l.length ≤ 1000) : C6 ns w fun r w1 => OV w1 r (l.map obR) ∧ Ext (fun _ => False) w w1 := by
  refine T6 _ _ _ ?_
  unfold S6
  have hlen := h.1
  refine ⟨fun n st v => ∃ i : Nat, st.2 = (i : Int) ∧ i ≤ l.length ∧ n = l.length - i ∧ Row v st.1 64 6 (((l.take i).map obR).flatMap obrow) ∧ (∀ j, st.1.own j → w.heap.size ≤ j) ∧ Ext (fun _ => False) w v, l.length, ⟨0, rfl, by omega, rfl, Row.nil _ _ _, fun j hj => (by obtain ⟨a, ha, _⟩ := hj; cases ha), Ext.refl _ _⟩, ?_⟩
  rintro n ⟨s, st⟩ v ⟨i, hst, hi, rfl, hrow, hown, ev⟩
  simp only at hst hrow hown
  subst hst
  unfold S6L1
  dsimp only
  have hsl : s.len = i := by
    have := hrow.1
    rw [obs_len, List.length_map, List.length_take] at this
    omega
  rw [hlen]
  refine Br.dec (fun q => ?_) fun q => ?_
  · rw [← hlen]
    refine ld_iv (i := i) (h.keep ev) (by omega) rfl ?_
    refine (c_real (l.getD i 0) v).mono ?_
    rintro r v1 ⟨rfl, e1⟩
    refine (Hn.start v1).nw (cs := obrow (obR (l.getD i 0))) fun v2 H2 => ?_
    have e2 := e1.tr H2.ext
    obtain ⟨s', v3, r1, r2, r3, e3, r5⟩ := elOb.app1 (ty := 28) (hrow.keep e2 fun _ _ e => e) (H2.get 0 rfl) rfl (ob_one _) (by omega) (by omega)
    refine ⟨s', v3, r1, l.length - (i + 1), by omega, i + 1, by rw [i64_id (by omega)]; rfl, by omega, by omega, ?_, fun j hj => (r5 j hj).elim (hown j) fun h => by have := e2.size; have := ev.size; omega, Ext.new (ev.tr e2) e3 hown⟩
    have ht : l.take (i + 1) = l.take i ++ [l.getD i 0] := by
      have : l[i]? = some l[i] := List.getElem?_eq_getElem (by omega)
      rw [List.take_add_one, this, List.getD_eq_getElem?_getD, this]
      rfl
    rw [ht, List.map_append, List.flatMap_append]
    simpa using r2
  · have hil : i = l.length := by omega
    subst hil
    rw [List.take_length] at hrow
    exact ⟨⟨by rw [hsl, List.length_map], hrow.view⟩, ev⟩
theorem c_far (n : Int) (w : World) : C10 n w fun r w1 => (r = false → -500000000 ≤ n ∧ n ≤ 500000000) ∧ w1 = w := by
  refine T10 _ _ _ ?_
  unfold S10
  refine Br.dec (fun h => ⟨fun h => (by cases h), rfl⟩) fun h => ⟨fun h2 => ?_, rfl⟩
  have := of_decide_eq_false h2
  omega
def firstG (m : Mx) : G := (m.1, m.2.1, m.2.2.1, m.2.2.2.1, m.2.2.2.2.1, m.2.2.2.2.2, 10000, 0, 0, 100000, nilS, 0, 0, 0, 0, 0, 0, 0, 0, 0, 0, 0, 0, 0, 1000000, 0, 0, 0, ⟨#[]⟩, 0)
theorem c_first (m : Mx) (w : World) : C16 m w fun r w1 => Ext (fun _ => False) w w1 := by
  refine T16 _ _ _ ?_
  unfold S16
  refine (Hn.start w).nw fun w2 H => ?_
  refine H.nw fun w3 H => ?_
  simp only [List.cons_append, List.nil_append, add_lit, Nat.zero_add] at H ⊢
  iterate 6 refine H.ld 0 rfl rfl ?_
  refine H.stT (i := 1) (ts := LG) (pre := []) (post := []) (x := firstG m) (zs := [.int .i64 0, .int .i64 0, .int .i64 0, .int .i64 0, .int .i64 0, .int .i64 0, .int .i64 0, .int .i64 0, .int .i64 0, .int .i64 0, Slc.v ⟨none, 0, 0⟩, .int .i64 0, .int .i64 0, .int .i64 0, .int .i64 0, .int .i64 0, .int .i64 0, .int .i64 0, .int .i64 0, .int .i64 0, .int .i64 0, .int .i64 0, .int .i64 0, .int .i64 0, .int .i64 0, .int .i64 0, .int .i64 0, .int .i64 0, .string ⟨#[]⟩, .int .i64 0]) rfl rfl rfl fun w4 H => ?_
  exact H.ldT (i := 1) (ts := LG) (pre := []) (post := []) (x := firstG m) rfl rfl H.ext
end
/-- Two paths lie apart. -/
def Ap (a : Nat) (sa : Slc) (b : Nat) (sb : Slc) : Prop := a ≠ b ∧ (∀ j, sa.own j → j ≠ b ∧ ¬ sb.own j) ∧ ∀ j, sb.own j → j ≠ a
theorem Ap.sym {a b : Nat} {sa sb : Slc} (h : Ap a sa b sb) : Ap b sb a sa := ⟨fun e => h.1 e.symm, fun j hj => ⟨h.2.2 j hj, fun h2 => (h.2.1 j h2).2 hj⟩, fun j hj => (h.2.1 j hj).1⟩
/-- Three paths and a matrix in memory. -/
structure H3 (W w : World) (m : Mx) (a : Nat) (p : Pa) (sa : Slc) (b : Nat) (q : Pa) (sb : Slc) (c : Nat) (r : Pa) (sc : Slc) : Prop where
  ext : Ext (fun _ => False) W w
  mb : Blk w W.heap.size (mrow m).toArray 23
  pa : PV w a p sa
  pb : PV w b q sb
  pc : PV w c r sc
  ga : W.heap.size < a ∧ ∀ j, sa.own j → W.heap.size < j
  gb : W.heap.size < b ∧ ∀ j, sb.own j → W.heap.size < j
  gc : W.heap.size < c ∧ ∀ j, sc.own j → W.heap.size < j
  ab : Ap a sa b sb
  bc : Ap b sb c sc
  ca : Ap c sc a sa
section
variable {W w w1 : World} {m m' : Mx} {a b c : Nat} {p q r p' : Pa} {sa sb sc sa' : Slc} {nm : ByteArray}
theorem H3.rot (h : H3 W w m a p sa b q sb c r sc) : H3 W w m b q sb c r sc a p sa := ⟨h.ext, h.mb, h.pb, h.pc, h.pa, h.gb, h.gc, h.ga, h.bc, h.ca, h.ab⟩
theorem H3.keep (h : H3 W w m a p sa b q sb c r sc) (he : Ext (fun _ => False) w w1) : H3 W w1 m a p sa b q sb c r sc := ⟨h.ext.tr he, he.blk h.mb id, h.pa.keep he, h.pb.keep he, h.pc.keep he, h.ga, h.gb, h.gc, h.ab, h.bc, h.ca⟩
theorem H3.drew (h : H3 W w m a p sa b q sb c r sc) : H3 W w.drew m a p sa b q sb c r sc := h.keep (Ext.refl _ _).drew
theorem H3.turn (h : H3 W w m a p sa b q sb c r sc) (h2 : PV w1 a p' sa') (h3 : Ext (fun j => j = a ∨ sa.own j) w w1) (h4 : ∀ j, sa'.own j → sa.own j ∨ w.heap.size ≤ j) : H3 W w1 m a p' sa' b q sb c r sc := by
  have s1 := h.ext.size
  have lm := h.mb.lt
  have la := h.pa.blk.lt
  have lb := h.pb.blk.lt
  have lc := h.pc.blk.lt
  refine ⟨Ext.new h.ext h3 fun j hj => ?_, h3.blk h.mb fun hj => ?_, h2, h.pb.keepF h3 (fun hj => ?_) fun j hj hh => ?_, h.pc.keepF h3 (fun hj => ?_) fun j hj hh => ?_, ⟨h.ga.1, fun j hj => ?_⟩, h.gb, h.gc, ⟨h.ab.1, fun j hj => ?_, h.ab.2.2⟩, h.bc, ⟨h.ca.1, fun j hj => ⟨(h.ca.2.1 j hj).1, fun hh => ?_⟩, fun j hj => ?_⟩⟩
  · rcases hj with rfl | hj
    · have := h.ga.1; omega
    · have := h.ga.2 j hj; omega
  · rcases hj with hj | hj
    · have := h.ga.1; omega
    · have := h.ga.2 _ hj; omega
  · rcases hj with hj | hj
    · exact h.ab.1 hj.symm
    · exact (h.ab.2.1 _ hj).1 rfl
  · rcases hh with hh | hh
    · exact h.ab.2.2 j hj hh
    · exact (h.ab.2.1 j hh).2 hj
  · rcases hj with hj | hj
    · exact h.ca.1 hj
    · exact h.ca.2.2 _ hj rfl
  · rcases hh with hh | hh
    · exact (h.ca.2.1 j hj).1 hh
    · exact (h.ca.2.1 j hj).2 hh
  · rcases h4 j hj with h5 | h5
    · exact h.ga.2 j h5
    · omega
  · rcases h4 j hj with h5 | h5
    · exact h.ab.2.1 j h5
    · exact ⟨by omega, fun hh => by have := h.pb.seg.own_lt hh; omega⟩
  · rcases h4 j hh with h5 | h5
    · exact (h.ca.2.1 j hj).2 h5
    · have := h.pc.seg.own_lt hj; omega
  · rcases h4 j hj with h5 | h5
    · exact h.ca.2.2 j h5
    · omega
attribute [local irreducible] Ld Sh.St Nw Nn LdS LdT LdST StT
theorem H3.do_ (hs : AS W) (h : H3 W w m a p sa b q sb c r sc) {d : ByteArray} {L : List Ob} {s : Slc} (ho : OV w s L) (hl : L.length ≤ 9223372036854775807) {e : Int} (hd : doP p (bl nm) (bl d) L m' = (e, p')) :
    C5 (some ⟨a, 0, none⟩) (nm, s, d) m' w fun x w1 => x = e ∧ ∃ sa', H3 W w1 m a p' sa' b q sb c r sc := by
  refine (c_do (hs.keep h.ext) h.pa ho hl).mono ?_
  rintro x w1 ⟨sg', h1, h2, h3, h4⟩
  rw [hd] at h1 h2
  exact ⟨h1.symm, sg', h.turn h2 h3 h4⟩
/-- An operator with numbers, behind the loads of a matrix. -/
theorem regI (hs : AS W) (h : H3 W w m a p sa b q sb c r sc) (l : List Int) (hl : l.length ≤ 4) (S : World → Prop) {g : Nat} {t t2 : TypeId} (hS : ∀ v, S v → Blk v g (mrow m').toArray t) (hS0 : S w) (hSk : ∀ v v', S v → Ext (fun _ => False) v v' → S v') {K : Int → World → Prop}
    (k : ∀ w1 sa', H3 W w1 m a (doP p (bl nm) [] (l.map obR) m').2 sa' b q sb c r sc → K (doP p (bl nm) [] (l.map obR) m').1 w1) :
    LdS S ⟨g, 0, none⟩ (Value.int .i64) fun (x0 : Int) => LdS S ((⟨g, 0, none⟩ : Addr).add 1) (Value.int .i64) fun (x1 : Int) => LdS S ((⟨g, 0, none⟩ : Addr).add 2) (Value.int .i64) fun (x2 : Int) =>
    LdS S ((⟨g, 0, none⟩ : Addr).add 3) (Value.int .i64) fun (x3 : Int) => LdS S ((⟨g, 0, none⟩ : Addr).add 4) (Value.int .i64) fun (x4 : Int) => LdS S ((⟨g, 0, none⟩ : Addr).add 5) (Value.int .i64) fun (x5 : Int) =>
    Nw w (.cells (ints l).toArray t2) fun w1 => S w1 ∧ C6 (⟨some ⟨w.heap.size, 0, none⟩, l.length, l.length⟩ : Slc) w1 fun s w2 => S w2 ∧ S w2 ∧
      C5 (some ⟨a, 0, none⟩) (nm, s, (⟨#[]⟩ : ByteArray)) (x0, x1, x2, x3, x4, x5) w2 K := by
  simp only [add_lit, Nat.zero_add]
  iterate 6 refine LdS.of hS rfl ?_
  refine (Hn.start w).nw (cs := ints l) fun w1 H => ⟨hSk _ _ hS0 H.ext, ?_⟩
  refine (c_nums10 (IV.of (H.get 0 rfl)) (by omega)).mono ?_
  rintro s w2 ⟨ho, e2⟩
  have E := H.ext.tr e2
  refine ⟨hSk _ _ hS0 E, hSk _ _ hS0 E, ((h.keep E).do_ hs (m' := m') ho (by rw [List.length_map]; omega) (nm := nm) rfl).mono ?_⟩
  rintro x w3 ⟨rfl, sa', H3'⟩
  exact k _ _ H3'
end
end Pat
end Go.Proofs.YtdchpkbpnfoknaaDoor

/- Paths: the rectangle moved, its box, its paint: the end of the law. Conditions: the tables are laid; Box; what value.Check says of a matrix. -/
namespace Go.Proofs.YtdchpkbpnfoknaaDoor
namespace Pat
open Sh Mat Fix Opr
set_option linter.unusedVariables false
set_option linter.unusedSimpArgs false
set_option maxRecDepth 8000
set_option maxHeartbeats 4000000
/-- What value.Check is to say of a matrix. -/
def ChkOk : Prop := ∀ (w : World) (m : Mx) (s : Slc), Mat.okM m = true → OV w s ((comps m).map numO) → C17 (6, 0, 0, ⟨#[]⟩, nilS, s) w (fun r w1 => r = 0 ∧ Ext (fun _ => False) w w1) fun _ _ => False
abbrev RT (W : World) : Bool → World → Prop := fun r w1 => r = true ∧ Ext (fun _ => False) W w1
abbrev PF : Value → World → Prop := fun _ _ => False
theorem ok_i64 {m : Mx} (h : Mat.okM m = true) : i64M m := fun x hx => by
  have := inW_spec.1 (List.all_eq_true.1 h x hx)
  omega
section
variable {W w w1 : World} {m : Mx} {a b c : Nat} {p q r : Pa} {sa sb sc sl : Slc} {x y ww h dx dy : Int} {T U : List Sg}
attribute [local irreducible] Ld Sh.St Nw Nn LdS LdT LdST StT
/-- What holds of the moved rectangle. -/
structure Mvd (dx dy : Int) (T U : List Sg) : Prop where
  t5 : T.length = 5
  u5 : U.length = 5
  at' : ∀ (i : Nat) s t, T[i]? = some s → U[i]? = some t → mvd dx dy s t
  box : ∃ b b' : Bx, boxP (ptsL T) = (b, true) ∧ boxP (ptsL U) = (b', true) ∧ b'.1 = b.1 + dx ∧ b'.2.2.2 = b.2.2.2 + dy ∧ inW b.1 = true ∧ inW b.2.2.2 = true
/-- The end, behind the second box. -/
theorem tp_end (hs : AS W) (hpm : PM W) (hchk : ChkOk) (hm : Mat.okM m = true) {bg : Int × Int} (hT : T.length = 5) (H : H3 W w m a ⟨T, bg, false⟩ sa b q sb c r sc) (hq : q.L = T) {f : Mx → Prop} :
    Ld w ⟨W.heap.size, 0, none⟩ (Value.int .i64) fun (x376 : Int) => Ld w ((⟨W.heap.size, 0, none⟩ : Addr).add 1) (Value.int .i64) fun (x377 : Int) => Ld w ((⟨W.heap.size, 0, none⟩ : Addr).add 2) (Value.int .i64) fun (x378 : Int) =>
    Ld w ((⟨W.heap.size, 0, none⟩ : Addr).add 3) (Value.int .i64) fun (x379 : Int) => Ld w ((⟨W.heap.size, 0, none⟩ : Addr).add 4) (Value.int .i64) fun (x380 : Int) => Ld w ((⟨W.heap.size, 0, none⟩ : Addr).add 5) (Value.int .i64) fun (x381 : Int) =>
    C16 (x376, x377, x378, x379, x380, x381) w fun r382 vw383 =>
      C15 (some ⟨a, 0, none⟩) ((⟨#[102]⟩ : ByteArray), (⟨none, 0, 0⟩ : Slc), (⟨#[]⟩ : ByteArray)) r382 vw383 fun r384 r385 r386 vw387 =>
        Nw vw387 (.cells #[.int .i64 0, Slc.v ((⟨none, 0, 0⟩ : Slc)), .int .i64 0, .int .i64 0, .int .i64 0, .int .i64 0, .int .i64 0, .int .i64 0, .int .i64 0, .int .i64 0, .int .i64 0, .int .i64 0] 52) fun vw388 =>
        StT (⟨vw387.heap.size, 0, none⟩ : Addr) 0 LPt r384 vw388 fun vw389 =>
        ∃ vS390 : World → Prop, vS390 vw389.drew ∧ Br (r386 == 0) (Br r385 (LdS vS390 (⟨vw387.heap.size, 0, none⟩ : Addr) (Value.int .i64) fun (x391 : Int) =>
          Br (x391 == 1) (LdS vS390 ((⟨vw387.heap.size, 0, none⟩ : Addr).add 1) Slc.v fun (x392 : Slc) =>
            C8 (some ⟨b, 0, none⟩) vw389.drew fun r393 vw394 =>
              vS390 vw394 ∧ C11 x392 r393 vw394 fun r395 vw396 =>
                Br r395 (C8 (some ⟨a, 0, none⟩) vw396 fun r397 vw398 =>
                  ∃ vS399 : World → Prop, vS399 vw398 ∧ Br (((r397.len : Nat) : Int) == 0) (LdS vS399 (⟨W.heap.size, 0, none⟩ : Addr) (Value.int .i64) fun (x400 : Int) =>
                    LdS vS399 ((⟨W.heap.size, 0, none⟩ : Addr).add 1) (Value.int .i64) fun (x401 : Int) => LdS vS399 ((⟨W.heap.size, 0, none⟩ : Addr).add 2) (Value.int .i64) fun (x402 : Int) =>
                    LdS vS399 ((⟨W.heap.size, 0, none⟩ : Addr).add 3) (Value.int .i64) fun (x403 : Int) => LdS vS399 ((⟨W.heap.size, 0, none⟩ : Addr).add 4) (Value.int .i64) fun (x404 : Int) =>
                    LdS vS399 ((⟨W.heap.size, 0, none⟩ : Addr).add 5) (Value.int .i64) fun (x405 : Int) =>
                    C18 (x400, x401, x402, x403, x404, x405) vw398 fun r406 vw407 =>
                      C17 (r406.1, r406.2.1, r406.2.2.1, r406.2.2.2.1, r406.2.2.2.2.1, r406.2.2.2.2.2) vw407 (fun r408 vw409 =>
                        RT W (r408 == 0) vw409) PF) (RT W false vw398)) (∃ vS410 : World → Prop, vS410 vw396 ∧ RT W false vw396)) (∃ vS411 : World → Prop, vS411 vw389.drew ∧ RT W false vw389.drew)) (∃ vS412 : World → Prop, vS412 vw389.drew ∧ RT W false vw389.drew)) (∃ vS413 : World → Prop, vS413 vw389.drew ∧ RT W false vw389.drew) := by
  simp only [add_lit, Nat.zero_add]
  iterate 6 refine Ld.of H.mb rfl ?_
  refine (c_first m w).mono ?_
  rintro g w2 e2
  have H := H.keep e2
  have hne : T ≠ [] := fun e => by rw [e] at hT; simp at hT
  have hd : paintP ⟨T, bg, false⟩ (bl ⟨#[102]⟩) (bl ⟨#[]⟩) [] = ⟨0, 1, T, true, pa0⟩ := paint_f T bg hne
  refine (c_paint (hs.keep H.ext) (hpm.keep H.ext) H.pa (OV.nil _) (by simp) (by decide)).mono ?_
  rintro r384 is e w3 ⟨sg', sp, hr, his, he, hsp, hpv, e3, ho, hspo, _⟩
  rw [hd] at hr his he hsp hpv
  dsimp only at hr his he hsp hpv
  rw [if_pos rfl] at hr
  subst his he hr
  have H := H.turn hpv e3 ho
  refine (Hn.start w3).nw fun w4 K => ?_
  refine K.stT (i := 0) (ts := LPt) (pre := []) (post := []) (x := mkPt 1 sp (fillG g) (strkG g)) (zs := [.int .i64 0, Slc.v ⟨none, 0, 0⟩, .int .i64 0, .int .i64 0, .int .i64 0, .int .i64 0, .int .i64 0, .int .i64 0, .int .i64 0, .int .i64 0, .int .i64 0, .int .i64 0]) rfl rfl rfl fun w5 K => ?_
  have K := K.drew
  have hb := K.get 0 rfl
  have H := H.keep K.ext
  have hsp := hsp.keep K.ext
  generalize w5.drew = u at K hb H hsp ⊢
  refine ⟨fun w' => Blk w' w3.heap.size (Sig.cells LPt (mkPt 1 sp (fillG g) (strkG g))).toArray 52, by simpa using hb, Br.t rfl (Br.t rfl ?_)⟩
  refine LdS.of (x := (1 : Int)) (fun w' h' => h') rfl (Br.t rfl (LdS.of (x := sp) (fun w' h' => h') rfl ?_))
  refine (c_segs H.pb).mono ?_
  rintro r393 w6 ⟨o6, e6⟩
  have H := H.keep e6
  refine ⟨e6.blk (by simpa using hb) id, (c_same (hsp.keep e6) o6.sv (by omega)).mono ?_⟩
  rintro r395 w7 ⟨rfl, e7⟩
  have H := H.keep e7
  rw [decide_eq_true hq.symm]
  refine Br.t rfl ((c_segs H.pa).mono ?_)
  rintro r397 w8 ⟨o8, e8⟩
  have H := H.keep e8
  have h0 : r397.len = 0 := o8.sv.1
  refine ⟨fun w' => Blk w' W.heap.size (mrow m).toArray 23, H.mb, Br.t (by rw [h0]; rfl) ?_⟩
  iterate 6 refine LdS.of (fun w' h' => h') rfl ?_
  refine (c_objectC (ok_i64 hm) w8).mono ?_
  rintro o w9 ⟨g9, rfl, hb9, _, e9⟩
  refine (hchk w9 m (rowS g9 6) hm (OV.of (L := (comps m).map numO) hb9)).mono ?_ fun _ _ h => h
  rintro r408 w10 ⟨rfl, e10⟩
  exact ⟨rfl, (H.ext.tr e9).tr e10⟩
theorem tp_loop (hbox : BoxOk) (hs : AS W) (hpm : PM W) (hchk : ChkOk) (hm : Mat.okM m = true) {bg : Int × Int} (hmv : Mvd dx dy T U) (hdx : -500000000 ≤ dx ∧ dx ≤ 500000000) (hdy : -500000000 ≤ dy ∧ dy ≤ 500000000)
    (H : H3 W w m a ⟨T, bg, false⟩ sa b q sb c r sc) (hq : q.L = T) (hr : r.L = U) (hsl : SV w sl T) : Lp (σ := Int) (S3L1 W dx dy (some ⟨a, 0, none⟩) (some ⟨b, 0, none⟩) (some ⟨c, 0, none⟩) sl (RT W) PF) 0 w := by
  refine ⟨fun n st v => ∃ i : Nat, st = (i : Int) ∧ i ≤ 5 ∧ n = 5 - i ∧ Ext (fun _ => False) w v, 5, ⟨0, rfl, by omega, rfl, Ext.refl _ _⟩, ?_⟩
  rintro n st v ⟨i, rfl, hi, rfl, ev⟩
  have Hv := H.keep ev
  unfold S3L1
  rw [hsl.1, hmv.t5]
  refine Br.dec (fun q5 => ⟨by omega, by omega, ?_⟩) fun q5 => ?_
  · have lt : i < T.length := by have := hmv.t5; omega
    have lu : i < U.length := by have := hmv.u5; omega
    have hT : T[i]? = some T[i] := List.getElem?_eq_getElem lt
    have hU : U[i]? = some U[i] := List.getElem?_eq_getElem lu
    obtain ⟨k1, k2, k3, k4⟩ := hmv.at' i _ _ hT hU
    generalize T[i] = s at hT k1 k2 k3 k4
    generalize U[i] = t at hU k1 k2
    rw [inW_spec] at k3 k4
    obtain ⟨ad, ha, hc⟩ := (hsl.keep ev).get hT
    have hc0 := hc 0 _ rfl
    rw [add_add', Nat.add_zero] at hc0
    rw [ha, Int.toNat_natCast]
    refine Nn.of (Ld.mk hc0 (Ld.mk (hc 1 _ rfl) (Ld.mk (hc 2 _ rfl) (Ld.mk (hc 3 _ rfl) (Ld.mk (hc 4 _ rfl) (Ld.mk (hc 5 _ rfl) (Ld.mk (hc 6 _ rfl) ?_)))))))
    refine (Hn.start v).nw fun v5 K => ?_
    simp only [List.nil_append, add_lit, Nat.zero_add] at K ⊢
    iterate 7 (refine K.st 0 rfl (by simp) fun _ K => ?_; simp only [List.set_cons_zero, List.set_cons_succ] at K)
    refine (c_segs (Hv.keep K.ext).pc).mono ?_
    rintro r323 v6 ⟨ho, e6⟩
    have K := K.keep e6
    rw [hr] at ho
    obtain ⟨ad2, ha2, hc2⟩ := ho.sv.get hU
    have hc20 := hc2 0 _ rfl
    rw [add_add', Nat.add_zero] at hc20
    have hl2 := ho.sv.1
    rw [hmv.u5] at hl2
    rw [ha2, hl2]
    refine ⟨by omega, by omega, Nn.of ?_⟩
    refine Ld.mk hc20 (Ld.mk (hc2 1 _ rfl) (Ld.mk (hc2 2 _ rfl) (Ld.mk (hc2 3 _ rfl) (Ld.mk (hc2 4 _ rfl) (Ld.mk (hc2 5 _ rfl) (Ld.mk (hc2 6 _ rfl) ?_))))))
    refine K.nw fun v7 K => ?_
    simp only [List.cons_append, List.nil_append] at K
    iterate 7 (refine K.st 1 rfl (by simp) fun _ K => ?_; simp only [List.set_cons_zero, List.set_cons_succ] at K)
    have go : ∃ m' < 5 - i, ∃ j : Nat, IntKind.i64.wrap ((i : Int) + 1) = (j : Int) ∧ j ≤ 5 ∧ m' = 5 - j ∧ Ext (fun _ => False) w _ := ⟨5 - (i + 1), by omega, i + 1, by rw [i64_id (by omega)]; rfl, by omega, rfl, ev.tr K.ext⟩
    refine K.ld 0 rfl rfl (K.ld 1 rfl rfl (Br.ne (fun hne => absurd k1 hne) fun _ => K.ld 0 rfl rfl (Br.ne (fun h4 => ?_) fun _ => go)))
    obtain ⟨j1, j2⟩ := k2 h4
    refine K.ld 0 rfl rfl (K.ld 1 rfl rfl ?_)
    rw [i64_id (n := s.2.2.2.2.2.1 + dx) (by omega)]
    refine Br.ne (fun hne => absurd j1.symm hne) fun _ => K.ld 0 rfl rfl (K.ld 1 rfl rfl ?_)
    rw [i64_id (n := s.2.2.2.2.2.2 + dy) (by omega)]
    exact Br.ne (fun hne => absurd j2.symm hne) fun _ => go
  · obtain ⟨B, B', hB, hB', b1, b2, b3, b4⟩ := hmv.box
    rw [inW_spec] at b3 b4
    refine (c_segs Hv.pa).mono ?_
    rintro r1 v1 ⟨o1, e1⟩
    have Hv := Hv.keep e1
    refine (hbox _ _ _ o1.sv (by have := hmv.t5; show T.length ≤ _; omega)).mono ?_
    rintro bx is v2 ⟨h2, e2⟩
    have Hv := Hv.keep e2
    rw [show boxP (ptsL (Pa.mk T bg false).L) = _ from hB] at h2
    cases h2
    refine (Hn.start v2).nw fun v3 K => ?_
    simp only [List.nil_append, add_lit, Nat.zero_add] at K ⊢
    iterate 4 (refine K.st 0 rfl (by simp) fun _ K => ?_; simp only [List.set_cons_zero, List.set_cons_succ] at K)
    refine (c_segs (Hv.keep K.ext).pc).mono ?_
    rintro r4 v4 ⟨o4, e4⟩
    have K := K.keep e4
    rw [hr] at o4
    refine (hbox _ _ _ o4.sv (by have := hmv.u5; omega)).mono ?_
    rintro bx2 is2 v5 ⟨h5, e5⟩
    have K := K.keep e5
    rw [hB'] at h5
    cases h5
    refine K.nw fun v6 K => ?_
    simp only [List.cons_append, List.nil_append] at K
    iterate 4 (refine K.st 1 rfl (by simp) fun _ K => ?_; simp only [List.set_cons_zero, List.set_cons_succ] at K)
    refine Br.f rfl (Br.f rfl (K.ld 0 rfl rfl (K.ld 1 rfl rfl ?_)))
    rw [i64_id (n := B.1 + dx) (by omega)]
    refine Br.ne (fun hne => absurd b1.symm hne) fun _ => K.ld 0 rfl rfl (K.ld 1 rfl rfl ?_)
    rw [i64_id (n := B.2.2.2 + dy) (by omega)]
    refine Br.ne (fun hne => absurd b2.symm hne) fun _ => ?_
    have Hv := Hv.keep K.ext
    have := tp_end hs hpm hchk hm hmv.t5 Hv hq (f := fun _ => True)
    simp only [add_lit, Nat.zero_add] at this
    exact this
end
end Pat
end Go.Proofs.YtdchpkbpnfoknaaDoor

/- TopPaths: the law. Conditions: the tables are laid; Box; value.Check of a matrix. -/
namespace Go.Proofs.YtdchpkbpnfoknaaDoor
namespace Pat
open Sh Mat Fix Opr
set_option linter.unusedVariables false
set_option linter.unusedSimpArgs false
set_option maxRecDepth 8000
set_option maxHeartbeats 4000000
theorem in_sum {x y : Int} (hx : -500000000 ≤ x ∧ x ≤ 500000000) (hy : -500000000 ≤ y ∧ y ≤ 500000000) : inW x = true ∧ inW y = true ∧ inW (x + y) = true := by
  refine ⟨inW_spec.2 ?_, inW_spec.2 ?_, inW_spec.2 ?_⟩ <;> omega
abbrev near5 (x : Int) : Prop := -500000000 ≤ x ∧ x ≤ 500000000
section
variable {W w w1 : World} {m : Mx} {a b c : Nat} {p q r : Pa} {sa sb sc sl : Slc} {x y ww h dx dy : Int} {T U : List Sg}
attribute [local irreducible] Ld Sh.St Nw Nn LdS LdT LdST StT
theorem tp_J1 (hbox : BoxOk) (hs : AS W) (hpm : PM W) (hchk : ChkOk) (hm : Mat.okM m = true) {bg : Int × Int} (hx : near5 x) (hy : near5 y) (hw : near5 ww) (hh : near5 h) (hdx : near5 dx) (hdy : near5 dy)
    (H : H3 W w m a ⟨T, bg, false⟩ sa b q sb c pa0 sc) (hT : fourP m x y ww h = some T) (hq : q.L = T) {g : Nat} {e : Int} (he : e = 0 → ∃ far, mulP m (moveM dx dy) = some far ∧ Blk w g (mrow far).toArray 23) :
    S3J1 W x y ww h dx dy (some ⟨a, 0, none⟩) (some ⟨b, 0, none⟩) (some ⟨c, 0, none⟩) (RT W) PF (⟨g, 0, none⟩, e) w := by
  unfold S3J1
  dsimp only
  by_cases h0 : e = 0
  · obtain ⟨far, hf, hb⟩ := he h0
    subst h0
    have H := H.drew
    have hb : Blk w.drew g (mrow far).toArray 23 := hb
    refine ⟨fun v => Blk v g (mrow far).toArray 23, hb, Br.ne (fun h => absurd rfl h) fun _ => ?_⟩
    refine regI hs H.rot.rot [x, y, ww, h] (by simp) _ (fun v hv => hv) hb (fun v v' hv e => e.blk hv id) ?_
    rintro w1 sc' H
    obtain ⟨x1, w1', xw⟩ := in_sum hx hw
    obtain ⟨y1, h1', yh⟩ := in_sum hy hh
    rcases dor_re far x1 y1 w1' h1' xw yh with ⟨hz, U, bg', hU, hD⟩ | ⟨hz, _, _⟩
    · have hz' : (doP pa0 (bl ⟨#[114, 101]⟩) [] ([x, y, ww, h].map obR) far).1 = 0 := hz
      have hD' : (doP pa0 (bl ⟨#[114, 101]⟩) [] ([x, y, ww, h].map obR) far).2 = ⟨U, bg', false⟩ := hD
      rw [hD'] at H
      refine Br.ne (fun hne => absurd hz' hne) fun _ => ?_
      have H := H.rot
      refine (c_segs H.pa).mono ?_
      rintro sl w2 ⟨o2, e2⟩
      obtain ⟨k1, k2, k3, k4⟩ := four_far hf hT hU
      exact tp_loop hbox hs hpm hchk hm ⟨k1, k2, k3, k4⟩ hdx hdy (H.keep e2) hq rfl o2.sv
    · have hz' : (doP pa0 (bl ⟨#[114, 101]⟩) [] ([x, y, ww, h].map obR) far).1 ≠ 0 := hz
      exact Br.ne (fun _ => ⟨rfl, H.ext⟩) fun h => absurd h hz'
  · exact ⟨fun _ => True, trivial, Br.ne (fun _ => ⟨rfl, H.drew.ext⟩) fun h => absurd h h0⟩
/-- The far matrix is stored. -/
theorem tp_far (hbox : BoxOk) (hs : AS W) (hpm : PM W) (hchk : ChkOk) (hm : Mat.okM m = true) {bg : Int × Int} (hx : near5 x) (hy : near5 y) (hw : near5 ww) (hh : near5 h) (hdx : near5 dx) (hdy : near5 dy)
    {u : World} (H : H3 W u m a ⟨T, bg, false⟩ sa b q sb c pa0 sc) (hT : fourP m x y ww h = some T) (hq : q.L = T) {g : Nat} {z0 z1 z2 z3 z4 z5 : Value} (K : Hn u w [(g, [z0, z1, z2, z3, z4, z5], 23)]) {r : Mx} {e : Int} (hr : (r, e) = resM (mulP m (moveM dx dy))) :
    Sh.St w ⟨g, 0, none⟩ (.int .i64 r.1) fun v1 => Sh.St v1 ⟨g, 1, none⟩ (.int .i64 r.2.1) fun v2 => Sh.St v2 ⟨g, 2, none⟩ (.int .i64 r.2.2.1) fun v3 => Sh.St v3 ⟨g, 3, none⟩ (.int .i64 r.2.2.2.1) fun v4 =>
    Sh.St v4 ⟨g, 4, none⟩ (.int .i64 r.2.2.2.2.1) fun v5 => Sh.St v5 ⟨g, 5, none⟩ (.int .i64 r.2.2.2.2.2) fun v6 => S3J1 W x y ww h dx dy (some ⟨a, 0, none⟩) (some ⟨b, 0, none⟩) (some ⟨c, 0, none⟩) (RT W) PF (⟨g, 0, none⟩, e) v6 := by
  iterate 6 (refine K.st 0 rfl (by simp) fun _ K => ?_; simp only [List.set_cons_zero, List.set_cons_succ] at K)
  refine tp_J1 hbox hs hpm hchk hm hx hy hw hh hdx hdy (H.keep K.ext) hT hq fun h0 => ?_
  subst h0
  have hb := K.get 0 rfl
  cases hf : mulP m (moveM dx dy) with
  | none => rw [hf] at hr; cases hr
  | some far =>
    rw [hf] at hr
    cases hr
    exact ⟨_, rfl, hb⟩
theorem tp_J2 (hbox : BoxOk) (hs : AS W) (hpm : PM W) (hchk : ChkOk) (hm : Mat.okM m = true) (hx : near5 x) (hy : near5 y) (hw : near5 ww) (hh : near5 h) (hdx : near5 dx) (hdy : near5 dy) {e : Int}
    (H : H3 W w m a p sa b q sb c pa0 sc) (hp : (e ≠ 0 ∧ p = pa0) ∨ (e = 0 ∧ ∃ T bg, fourP m x y ww h = some T ∧ p = ⟨T, bg, false⟩ ∧ q.L = T)) :
    S3J2 W x y ww h dx dy (some ⟨a, 0, none⟩) (some ⟨b, 0, none⟩) (some ⟨c, 0, none⟩) e (RT W) PF () w := by
  unfold S3J2
  simp only [add_lit, Nat.zero_add]
  rcases hp with ⟨he, rfl⟩ | ⟨rfl, T, bg, hT, rfl, hq⟩
  · refine Br.ne (fun _ => ?_) fun h => absurd h he
    refine (c_segs H.pa).mono ?_
    rintro s w2 ⟨o2, e2⟩
    have h0 : s.len = 0 := o2.sv.1
    rw [h0]
    exact ⟨rfl, H.ext.tr e2⟩
  · refine Br.ne (fun h => absurd rfl h) fun _ => Join.intro ?_
    have H := H.drew
    have mk : ∀ {v : World}, Ext (fun _ => False) w.drew v → Blk v W.heap.size (mrow m).toArray 23 := fun e => e.blk H.mb id
    generalize w.drew = u at H mk ⊢
    refine ⟨fun v => Blk v W.heap.size (mrow m).toArray 23, H.mb, ?_⟩
    iterate 6 refine LdS.of (fun w' h' => h') rfl ?_
    refine ⟨?_, ?_⟩
    · refine (c_move dx dy u).mono ?_
      rintro r v1 ⟨rfl, e1⟩
      refine ⟨mk e1, ?_, ?_⟩
      · refine (c_mul m (moveM dx dy) v1).mono ?_
        rintro f e v2 ⟨hr, e2⟩
        have E := e1.tr e2
        refine (Hn.start v2).nw fun v3 K => ?_
        exact tp_far hbox hs hpm hchk hm hx hy hw hh hdx hdy (H.keep E) hT hq K hr
      · refine (Hn.start v1).nw fun v3 K => ⟨mk (e1.tr K.ext), (c_mul m (moveM dx dy) v3).mono ?_⟩
        rintro f e v2 ⟨hr, e2⟩
        exact tp_far hbox hs hpm hchk hm hx hy hw hh hdx hdy (H.keep e1) hT hq (K.keep e2) hr
    · refine (Hn.start u).nw fun v1 K => ⟨mk K.ext, (c_move dx dy v1).mono ?_⟩
      rintro r v2 ⟨rfl, e2⟩
      refine ⟨mk (K.ext.tr e2), (c_mul m (moveM dx dy) v2).mono ?_⟩
      rintro f e v3 ⟨hr, e3⟩
      exact tp_far hbox hs hpm hchk hm hx hy hw hh hdx hdy H hT hq ((K.keep e2).keep e3) hr
end
end Pat
end Go.Proofs.YtdchpkbpnfoknaaDoor

/- TopPaths: the law, whole. Conditions: the tables are laid; Box; value.Check of a matrix. -/
namespace Go.Proofs.YtdchpkbpnfoknaaDoor
namespace Pat
open Sh Mat Fix Opr
set_option linter.unusedVariables false
set_option linter.unusedSimpArgs false
set_option maxRecDepth 8000
set_option maxHeartbeats 4000000
theorem i64_add {x y : Int} (hx : near5 x) (hy : near5 y) : IntKind.i64.wrap (x + y) = x + y := i64_id (by omega)
section
variable {W w w1 : World} {m : Mx} {a b c : Nat} {p q r : Pa} {sa sb sc sl : Slc} {x y ww h dx dy : Int} {T U : List Sg}
attribute [local irreducible] Ld Sh.St Nw Nn LdS LdT LdST StT
/-- An operator with numbers, in a region. -/
theorem regM (hs : AS W) (H : H3 W w m a p sa b q sb c r sc) (l : List Int) (hl : l.length ≤ 4) {nm : ByteArray} {t2 : TypeId} {K : Int → World → Prop}
    (k : ∀ w1 sa', H3 W w1 m a (doP p (bl nm) [] (l.map obR) m).2 sa' b q sb c r sc → K (doP p (bl nm) [] (l.map obR) m).1 w1) :
    ∃ S : World → Prop, S w.drew ∧ LdS S ⟨W.heap.size, 0, none⟩ (Value.int .i64) fun (x0 : Int) => LdS S ((⟨W.heap.size, 0, none⟩ : Addr).add 1) (Value.int .i64) fun (x1 : Int) => LdS S ((⟨W.heap.size, 0, none⟩ : Addr).add 2) (Value.int .i64) fun (x2 : Int) =>
    LdS S ((⟨W.heap.size, 0, none⟩ : Addr).add 3) (Value.int .i64) fun (x3 : Int) => LdS S ((⟨W.heap.size, 0, none⟩ : Addr).add 4) (Value.int .i64) fun (x4 : Int) => LdS S ((⟨W.heap.size, 0, none⟩ : Addr).add 5) (Value.int .i64) fun (x5 : Int) =>
    Nw w.drew (.cells (ints l).toArray t2) fun w1 => S w1 ∧ C6 (⟨some ⟨w.drew.heap.size, 0, none⟩, l.length, l.length⟩ : Slc) w1 fun s w2 => S w2 ∧ S w2 ∧
      C5 (some ⟨a, 0, none⟩) (nm, s, (⟨#[]⟩ : ByteArray)) (x0, x1, x2, x3, x4, x5) w2 K :=
  ⟨fun v => Blk v W.heap.size (mrow m).toArray 23, H.drew.mb, regI hs H.drew l hl _ (fun v hv => hv) H.drew.mb (fun v v' hv e => e.blk hv id) k⟩
theorem top_law (hbox : BoxOk) (hchk : ChkOk) (hs : AS W) (hpm : PM W) (x y ww h : Int) (m : Mx) (dx dy : Int) : C3 x y ww h m dx dy W (RT W) PF := by
  refine T3 x y ww h m dx dy _ _ _ ?_
  unfold S3
  refine (Hn.start W).nw fun w2 K => ?_
  simp only [List.nil_append] at K
  have s2 : W.heap.size < w2.heap.size := K.lt 0 rfl
  refine (c_new w2).mono ?_
  rintro r w3 ⟨b0, rfl, hb0, hpv, e3⟩
  have K := K.keep e3
  refine Br.f rfl ?_
  refine (Hn.start w3).nw (cs := ints [1, 2]) fun w4 J => ?_
  refine (c_nums10 (IV.of (l := [1, 2]) (J.get 0 rfl)) (by decide)).mono ?_
  rintro s w5 ⟨ho, e5⟩
  refine (c_one w5).mono ?_
  rintro r w6 ⟨rfl, e6⟩
  have E := (J.ext.tr e5).tr e6
  refine (c_do (hs.keep (K.ext.tr E)) (hpv.keep E) (ho.keep e6) (by simp)).mono ?_
  rintro r w7 ⟨sg', h1, hpv7, e7, o7⟩
  have hd : doP pa0 (bl ⟨#[109]⟩) (bl ⟨#[]⟩) ([1, 2].map obR) one = (0, ⟨[mvS (1, 2)], (1, 2), false⟩) := do_12
  rw [hd] at h1 hpv7
  dsimp only at h1 hpv7
  subst h1
  have no : ∀ j, ¬ nilS.own j := fun j hj => by obtain ⟨a', ha, _⟩ := hj; cases ha
  have K := (K.keep E).other e7 fun j hj => by
    rcases hj with rfl | hj
    · refine ⟨by omega, ?_⟩
      simp
      omega
    · exact (no j hj).elim
  refine Br.ne (fun h => absurd rfl h) fun _ => ?_
  refine (c_segs hpv7).mono ?_
  rintro r8 w8 ⟨o8, e8⟩
  have n8 : r8.len = 1 := o8.sv.1
  rw [n8]
  refine Br.ne (fun h => absurd rfl h) fun _ => ?_
  refine (c_segs (hpv7.keep e8)).mono ?_
  rintro r9 w9 ⟨o9, e9⟩
  have n9 : r9.len = 1 := o9.sv.1
  obtain ⟨ad, ha, hc⟩ := o9.sv.get (i := 0) rfl
  rw [n9, ha]
  have K := (K.keep e8).keep e9
  refine ⟨by decide, by decide, Nn.of (Ld.mk (x := (1 : Int)) (hc 5 _ rfl) (Ld.mk (x := (2 : Int)) (by rw [add_add']; exact hc 6 _ rfl) (Br.f rfl ?_)))⟩
  simp only [add_lit, Nat.zero_add]
  iterate 6 refine K.ld 0 rfl rfl ?_
  refine (c_check m w9).mono ?_
  rintro r w10 ⟨hr, e10⟩
  have K := K.keep e10
  by_cases hm : Mat.okM m = true
  rotate_left
  · rw [if_neg hm] at hr
    subst hr
    exact Br.ne (fun _ => ⟨rfl, K.ext⟩) fun h => absurd h (by decide)
  rw [if_pos hm] at hr
  subst hr
  refine Br.ne (fun h => absurd rfl h) fun _ => ?_
  refine (c_far x _).mono ?_
  rintro r w10 ⟨hx, rfl⟩
  cases r with
  | true => exact Br.t rfl ⟨rfl, K.ext⟩
  | false =>
  refine Br.f rfl ?_
  have hx := hx rfl
  refine (c_far y _).mono ?_
  rintro r w10 ⟨hy, rfl⟩
  cases r with
  | true => exact Br.t rfl ⟨rfl, K.ext⟩
  | false =>
  refine Br.f rfl ?_
  have hy := hy rfl
  refine (c_far ww _).mono ?_
  rintro r w10 ⟨hw, rfl⟩
  cases r with
  | true => exact Br.t rfl ⟨rfl, K.ext⟩
  | false =>
  refine Br.f rfl ?_
  have hw := hw rfl
  refine (c_far h _).mono ?_
  rintro r w10 ⟨hh, rfl⟩
  cases r with
  | true => exact Br.t rfl ⟨rfl, K.ext⟩
  | false =>
  refine Br.f rfl ?_
  have hh := hh rfl
  refine (c_far dx _).mono ?_
  rintro r w10 ⟨hdx, rfl⟩
  cases r with
  | true => exact Br.t rfl ⟨rfl, K.ext⟩
  | false =>
  refine Br.f rfl ?_
  have hdx := hdx rfl
  refine (c_far dy _).mono ?_
  rintro r w10 ⟨hdy, rfl⟩
  cases r with
  | true => exact Br.t rfl ⟨rfl, K.ext⟩
  | false =>
  refine Br.f rfl ?_
  have hdy := hdy rfl
  rw [i64_add hx hw, i64_add hy hh]
  refine (c_new w10).mono ?_
  rintro r w11 ⟨a, rfl, ga, va, e11⟩
  refine (c_new w11).mono ?_
  rintro r w12 ⟨b, rfl, gb, vb, e12⟩
  refine (c_new w12).mono ?_
  rintro r w13 ⟨c, rfl, gc, vc, e13⟩
  refine Br.f rfl (Br.f rfl (Br.f rfl ?_))
  have K := ((K.keep e11).keep e12).keep e13
  have la := va.blk.lt
  have lb := vb.blk.lt
  have k10 : W.heap.size < w10.heap.size := by
    have h1 := e10.size
    have h2 := e9.size
    have h3 := e8.size
    have h4 := e7.size
    have h5 := E.size
    have h6 := e3.size
    omega
  have H : H3 W w13 m a pa0 nilS b pa0 nilS c pa0 nilS := ⟨K.ext, K.get 0 rfl, (va.keep e12).keep e13, vb.keep e13, vc, ⟨by omega, fun j hj => (no j hj).elim⟩, ⟨by omega, fun j hj => (no j hj).elim⟩, ⟨by omega, fun j hj => (no j hj).elim⟩,
    ⟨by omega, fun j hj => (no j hj).elim, fun j hj => (no j hj).elim⟩, ⟨by omega, fun j hj => (no j hj).elim, fun j hj => (no j hj).elim⟩, ⟨by omega, fun j hj => (no j hj).elim, fun j hj => (no j hj).elim⟩⟩
  clear K va vb vc la lb
  obtain ⟨x1, w1', xw⟩ := in_sum hx hw
  obtain ⟨y1, h1', yh⟩ := in_sum hy hh
  refine regM hs H [x, y, ww, h] (by simp) ?_
  intro w14 sa1 H
  generalize hA : doP pa0 (bl ⟨#[114, 101]⟩) [] ([x, y, ww, h].map obR) m = A at H ⊢
  have H := H.rot
  refine regM hs H [x, y] (by simp) ?_
  intro w15 sb1 H
  generalize hB1 : doP pa0 (bl ⟨#[109]⟩) [] ([x, y].map obR) m = B1 at H ⊢
  refine regM hs H [x + ww, y] (by simp) ?_
  intro w16 sb2 H
  generalize hB2 : doP B1.2 (bl ⟨#[108]⟩) [] ([x + ww, y].map obR) m = B2 at H ⊢
  refine regM hs H [x + ww, y + h] (by simp) ?_
  intro w17 sb3 H
  generalize hB3 : doP B2.2 (bl ⟨#[108]⟩) [] ([x + ww, y + h].map obR) m = B3 at H ⊢
  refine regM hs H [x, y + h] (by simp) ?_
  intro w18 sb4 H
  generalize hB4 : doP B3.2 (bl ⟨#[108]⟩) [] ([x, y + h].map obR) m = B4 at H ⊢
  iterate 6 refine Ld.of H.mb rfl ?_
  refine (H.do_ hs (OV.nil _) (by simp) (nm := ⟨#[104]⟩) (d := ⟨#[]⟩) (m' := m) (e := (doP B4.2 (bl ⟨#[104]⟩) (bl ⟨#[]⟩) [] m).1) (p' := (doP B4.2 (bl ⟨#[104]⟩) (bl ⟨#[]⟩) [] m).2) rfl).mono ?_
  rintro e w19 ⟨rfl, sb5, H⟩
  generalize hB5 : doP B4.2 (bl ⟨#[104]⟩) (bl ⟨#[]⟩) [] m = B5 at H ⊢
  have H := H.rot.rot
  refine Join.intro ?_
  rcases sides m x1 y1 xw yh B1 B2 B3 B4 B5 hB1.symm hB2.symm hB3.symm hB4.symm hB5.symm with ⟨T, hT, z1, z2, z3, z4, z5, hL⟩ | ⟨hN, hz⟩
  · rcases dor_re m x1 y1 w1' h1' xw yh with ⟨hA0, T', bg, hT', hA2⟩ | ⟨_, hN, _⟩
    · obtain rfl : T = T' := Option.some.inj (hT.symm.trans hT')
      have hA0 : A.1 = 0 := by rw [← hA]; exact hA0
      have hA2 : A.2 = ⟨T, bg, false⟩ := by rw [← hA]; exact hA2
      have hle : T.length ≤ 100000 := by
        have := H.pb.few
        rw [hL] at this
        omega
      rw [hA0] at *
      rw [hA2] at H
      refine Br.eq (fun _ => Br.eq (fun _ => Br.eq (fun _ => Br.eq (fun _ => ?_) fun h => absurd z4 h) fun h => absurd z3 h) fun h => absurd z2 h) fun h => absurd z1 h
      refine Br.f (by rw [z5]; rfl) (Br.eq (fun _ => ?_) fun h => absurd rfl h)
      refine (c_segs H.pa).mono ?_
      rintro r20 w20 ⟨o20, e20⟩
      have H := H.keep e20
      refine (c_segs H.pb).mono ?_
      rintro r21 w21 ⟨o21, e21⟩
      have H := H.keep e21
      refine (c_same (o20.sv.keep e21) o21.sv hle).mono ?_
      rintro r22 w22 ⟨rfl, e22⟩
      have H := H.keep e22
      refine Br.f (by rw [decide_eq_true hL.symm]; rfl) ?_
      exact tp_J2 hbox hs hpm hchk hm hx hy hw hh hdx hdy H (.inr ⟨rfl, T, bg, hT, rfl, hL⟩)
    · rw [hT] at hN
      cases hN
  · rcases dor_re m x1 y1 w1' h1' xw yh with ⟨_, T', _, hT', _⟩ | ⟨hA0, _, hA2⟩
    · rw [hN] at hT'
      cases hT'
    · have hA0 : A.1 ≠ 0 := by rw [← hA]; exact hA0
      have hA2 : A.2 = pa0 := by rw [← hA]; exact hA2
      rw [hA2] at H
      have hb : (A.1 == 0) = false := beq_eq_false_iff_ne.2 hA0
      have fin := tp_J2 hbox hs hpm hchk hm hx hy hw hh hdx hdy (e := A.1) H (.inl ⟨hA0, rfl⟩)
      rw [hb]
      have tl : ∀ {P Q : Prop}, Br (!(false == false)) P (Br false Q (S3J2 W x y ww h dx dy (some ⟨a, 0, none⟩) (some ⟨b, 0, none⟩) (some ⟨c, 0, none⟩) A.1 (RT W) PF () w19)) := Br.f rfl (Br.f rfl fin)
      refine Br.eq (fun q1 => Br.eq (fun q2 => Br.eq (fun q3 => Br.eq (fun q4 => ?_) fun _ => tl) fun _ => tl) fun _ => tl) fun _ => tl
      have q5 : (B5.1 == 0) = false := beq_eq_false_iff_ne.2 fun q5 => hz ⟨q1, q2, q3, q4, q5⟩
      rw [q5]
      exact tl
end
end Pat
end Go.Proofs.YtdchpkbpnfoknaaDoor

/- What value.Check says of arrays of numbers. No condition but ranges. -/

namespace Go.Proofs.YtdchpkbpnfoknaaDoor
namespace Pat
open Sh Mat Fix Opr
set_option linter.unusedVariables false
set_option linter.unusedSimpArgs false
set_option maxRecDepth 8000
set_option maxHeartbeats 4000000
section
variable {w w' w1 : World} {s : Slc} {L : List Ob} {o : Ob}
attribute [local irreducible] Ld Sh.St Nw Nn LdS LdT LdST StT
theorem v_must (e : Int) (w : World) : C54 true e w (fun w1 => w1 = w) fun _ _ => False := by
  refine T54 _ _ _ _ _ ?_
  unfold S54
  exact Br.f rfl rfl
theorem v_used {k : Int} (hk : k = 2 ∨ k = 3 ∨ k = 6) (w : World) : C55 k w fun r b w1 => r = (decide (k ≠ 6), false, false, false, decide (k = 6)) ∧ b = true ∧ Ext (fun _ => False) w w1 := by
  refine T55 _ _ _ ?_
  unfold S55
  refine (Hn.start w).nw fun w2 H => ?_
  simp only [List.nil_append, add_lit, Nat.zero_add] at H ⊢
  rcases hk with rfl | rfl | rfl
  · refine Br.f rfl (Join.intro (Br.f rfl (Br.t rfl ?_)))
    unfold S55J2
    refine Br.t rfl ?_
    simp only [add_lit, Nat.zero_add]
    iterate 5 (refine H.st 0 rfl (by simp) fun _ H => ?_; simp only [List.set_cons_zero, List.set_cons_succ] at H)
    iterate 5 refine H.ld 0 rfl rfl ?_
    exact ⟨rfl, by trivial, H.ext⟩
  · refine Br.f rfl (Join.intro (Br.f rfl (Br.f rfl ?_)))
    unfold S55J2
    refine Br.t rfl ?_
    simp only [add_lit, Nat.zero_add]
    iterate 5 (refine H.st 0 rfl (by simp) fun _ H => ?_; simp only [List.set_cons_zero, List.set_cons_succ] at H)
    iterate 5 refine H.ld 0 rfl rfl ?_
    exact ⟨rfl, by trivial, H.ext⟩
  · refine Br.f rfl (Join.intro (Br.f rfl (Br.f rfl ?_)))
    unfold S55J2
    refine Br.f rfl (Join.intro (Br.f rfl ?_))
    unfold S55J1
    refine Br.f rfl (Br.t rfl ?_)
    simp only [add_lit, Nat.zero_add]
    iterate 5 (refine H.st 0 rfl (by simp) fun _ H => ?_; simp only [List.set_cons_zero, List.set_cons_succ] at H)
    iterate 5 refine H.ld 0 rfl rfl ?_
    exact ⟨rfl, by trivial, H.ext⟩
/-- A number, or an array, that is in order by itself. -/
def goodK (o : Ob) : Prop := (o.1 = 2 ∧ -2147483647 ≤ o.2.1 ∧ o.2.1 ≤ 2147483647) ∨ (o.1 = 3 ∧ -1073741824 ≤ o.2.1 ∧ o.2.1 ≤ 1073741824) ∨ (o.1 = 6 ∧ o.2.1 = 0)
theorem v_fits (h : goodK o) (w : World) : C56 o w fun r w1 => r = true ∧ Ext (fun _ => False) w w1 := by
  refine T56 o _ _ ?_
  unfold S56
  refine (Hn.start w).nw fun w2 H => ?_
  simp only [List.nil_append, add_lit, Nat.zero_add] at H ⊢
  refine H.ld 0 rfl rfl ?_
  rcases h with ⟨h1, h2, h3⟩ | ⟨h1, h2, h3⟩ | ⟨h1, h2⟩
  · rw [h1]
    refine Br.f rfl (Br.t rfl (H.ld 0 rfl rfl ((c_within2 _ _ _ _).mono ?_)))
    rintro r w3 ⟨rfl, rfl⟩
    exact ⟨decide_eq_true ⟨h2, h3⟩, H.ext⟩
  · rw [h1]
    refine Br.f rfl (Br.f rfl (Br.t rfl (H.ld 0 rfl rfl ((c_within2 _ _ _ _).mono ?_))))
    rintro r w3 ⟨rfl, rfl⟩
    exact ⟨decide_eq_true ⟨h2, h3⟩, H.ext⟩
  · rw [h1]
    exact Br.f rfl (Br.f rfl (Br.f rfl (Br.f rfl ⟨by trivial, H.ext⟩)))
theorem v_short (h : goodK o) (hs : o.2.2.2.1 = ⟨#[]⟩) (w : World) : C57 o w fun r w1 => r = true ∧ Ext (fun _ => False) w w1 := by
  refine T57 o _ _ ?_
  unfold S57
  refine (Hn.start w).nw fun w2 H => ?_
  simp only [List.nil_append, add_lit, Nat.zero_add] at H ⊢
  refine H.ld 0 rfl rfl ?_
  have h4 : o.1 ≠ 4 ∧ o.1 ≠ 5 := by
    rcases h with ⟨h1, _, _⟩ | ⟨h1, _, _⟩ | ⟨h1, _⟩ <;> omega
  refine Br.eq (fun h => absurd h h4.1) fun _ => Br.eq (fun h => absurd h h4.2) fun _ => H.ld 0 rfl rfl ?_
  rw [hs]
  exact ⟨by decide, H.ext⟩
/-- What check asks of an object itself; then come its kids. -/
theorem v_check (h : goodK o) (hg : o.2.2.1 = 0) (hs : o.2.2.2.1 = ⟨#[]⟩) (hk : o.2.2.2.2.1 = nilS) (hkid : o.1 ≠ 6 → o.2.2.2.2.2 = nilS) (hl : o.2.2.2.2.2.len ≤ 8191) {d : Int} (hd : d ≤ 24) (w : World)
    (kids : ∀ w1, Ext (fun _ => False) w w1 → Lp (σ := Int) (S40L1 d o.2.2.2.2.2 (fun w2 => Ext (fun _ => False) w w2) fun _ _ => False) 0 w1) :
    C40 o d w (fun w1 => Ext (fun _ => False) w w1) fun _ _ => False := by
  refine T40 o _ _ _ _ ?_
  unfold S40
  refine (Hn.start w).nw fun w2 H => ?_
  simp only [List.nil_append, add_lit, Nat.zero_add] at H ⊢
  have k3 : o.1 = 2 ∨ o.1 = 3 ∨ o.1 = 6 := by
    rcases h with ⟨h1, _, _⟩ | ⟨h1, _, _⟩ | ⟨h1, _⟩ <;> omega
  rw [decide_eq_true hd]
  refine (v_must 7 w2).mono ?_ fun _ _ h => h
  rintro w3 rfl
  refine H.ld 0 rfl rfl ((v_used k3 w3).mono ?_)
  rintro r b w4 ⟨rfl, rfl, e4⟩
  have H := H.keep e4
  refine H.nw fun w5 H => ?_
  simp only [List.cons_append, List.nil_append] at H
  iterate 5 (refine H.st 1 rfl (by simp) fun _ H => ?_; simp only [List.set_cons_zero, List.set_cons_succ] at H)
  have rest : ∀ {w7 : World}, Hn w w7 [(w.heap.size, [.int .i64 o.1, .int .i64 o.2.1, .int .i64 o.2.2.1, .string o.2.2.2.1, Slc.v o.2.2.2.2.1, Slc.v o.2.2.2.2.2], 64), (w4.heap.size, [.bool (decide (o.1 ≠ 6)), .bool false, .bool false, .bool false, .bool (decide (o.1 = 6))], 118)] →
      S40J2 w d w4 (fun w2 => Ext (fun _ => False) w w2) (fun _ _ => False) () w7 := by
    intro w7 H
    unfold S40J2
    simp only [add_lit, Nat.zero_add]
    iterate 6 refine H.ld 0 rfl rfl ?_
    refine (v_fits h _).mono ?_
    rintro r w8 ⟨rfl, e8⟩
    have H := H.keep e8
    refine (v_must 2 w8).mono ?_ fun _ _ h => h
    rintro w9 rfl
    iterate 6 refine H.ld 0 rfl rfl ?_
    refine (v_short h hs _).mono ?_
    rintro r w10 ⟨rfl, e10⟩
    have H := H.keep e10
    refine (v_must 5 w10).mono ?_ fun _ _ h => h
    rintro w11 rfl
    refine H.ld 0 rfl rfl ?_
    rw [decide_eq_true (show ((o.2.2.2.2.2.len : Nat) : Int) ≤ 8191 by omega)]
    refine (v_must 6 w11).mono ?_ fun _ _ h => h
    rintro w12 rfl
    refine Join.intro (H.ld 0 rfl rfl (Br.ne (fun _ => H.ld 1 rfl rfl (Br.t rfl ?_)) fun h5 => by omega))
    refine (v_must 3 w12).mono ?_ fun _ _ h => h
    rintro w13 rfl
    unfold S40J1
    simp only [add_lit, Nat.zero_add]
    exact H.ld 0 rfl rfl (kids _ H.ext)
  refine Join.intro (Br.t rfl ?_)
  have deep : ∀ (w7 : World), Hn w w7 [(w.heap.size, [.int .i64 o.1, .int .i64 o.2.1, .int .i64 o.2.2.1, .string o.2.2.2.1, Slc.v o.2.2.2.2.1, Slc.v o.2.2.2.2.2], 64), (w4.heap.size, [.bool (decide (o.1 ≠ 6)), .bool false, .bool false, .bool false, .bool (decide (o.1 = 6))], 118)] →
      Br (d == 1) (C54 true 10 w7 (fun vw => S40J2 w d w4 (fun w2 => Ext (fun _ => False) w w2) (fun _ _ => False) () vw) fun _ _ => False) (Ld w7 ⟨w.heap.size, 0, none⟩ (Value.int .i64) fun (x : Int) => C54 (x != 9) 10 w7 (fun vw => S40J2 w d w4 (fun w2 => Ext (fun _ => False) w w2) (fun _ _ => False) () vw) fun _ _ => False) := by
    intro w7 H
    refine Br.eq (fun _ => (v_must 10 w7).mono ?_ fun _ _ h => h) fun _ => H.ld 0 rfl rfl ?_
    · rintro w8 rfl
      exact rest H
    · have : (o.1 != 9) = true := by rcases k3 with h | h | h <;> rw [h] <;> rfl
      rw [this]
      refine (v_must 10 w7).mono ?_ fun _ _ h => h
      rintro w8 rfl
      exact rest H
  have e0 : ∀ {A B : Prop}, A → Br (o.2.2.2.1.toList == (⟨#[]⟩ : ByteArray).toList) A B := fun a => by rw [hs]; exact Br.t (by simp) a
  have e1 : ∀ {A B : Prop}, A → Br (o.2.2.1 == 0) A B := fun a => Br.eq (fun _ => a) fun h => absurd hg h
  have e2 : ∀ {A B : Prop}, A → Br (((o.2.2.2.2.1.len : Nat) : Int) == 0) A B := fun a => Br.eq (fun _ => a) fun h => absurd (by rw [hk]; rfl) h
  rcases k3 with h2 | h2 | h2
  all_goals rw [h2] at H deep
  · refine H.ld 1 rfl rfl (Br.t rfl (H.ld 1 rfl rfl (Br.f rfl (H.ld 0 rfl rfl (e1 (H.ld 1 rfl rfl (Br.f rfl (H.ld 0 rfl rfl (e0 (H.ld 1 rfl rfl (Br.f rfl (H.ld 0 rfl rfl (e2 (H.ld 1 rfl rfl (Br.f rfl (H.ld 0 rfl rfl ?_))))))))))))))))
    exact Br.eq (fun _ => deep _ H) fun h => absurd (by rw [hkid (by omega)]; rfl) h
  · refine H.ld 1 rfl rfl (Br.t rfl (H.ld 1 rfl rfl (Br.f rfl (H.ld 0 rfl rfl (e1 (H.ld 1 rfl rfl (Br.f rfl (H.ld 0 rfl rfl (e0 (H.ld 1 rfl rfl (Br.f rfl (H.ld 0 rfl rfl (e2 (H.ld 1 rfl rfl (Br.f rfl (H.ld 0 rfl rfl ?_))))))))))))))))
    exact Br.eq (fun _ => deep _ H) fun h => absurd (by rw [hkid (by omega)]; rfl) h
  · have hn : o.2.1 = 0 := by rcases h with ⟨h1, _, _⟩ | ⟨h1, _, _⟩ | ⟨_, h1⟩ <;> omega
    refine H.ld 1 rfl rfl (Br.f rfl (H.ld 0 rfl rfl (Br.eq (fun _ => ?_) fun h => absurd hn h)))
    exact H.ld 1 rfl rfl (Br.f rfl (H.ld 0 rfl rfl (e1 (H.ld 1 rfl rfl (Br.f rfl (H.ld 0 rfl rfl (e0 (H.ld 1 rfl rfl (Br.f rfl (H.ld 0 rfl rfl (e2 (H.ld 1 rfl rfl (Br.t rfl (deep _ H))))))))))))))
end
end Pat
end Go.Proofs.YtdchpkbpnfoknaaDoor

/- What value.Check says of a matrix: it is in order. Condition: the matrix is in range. -/
namespace Go.Proofs.YtdchpkbpnfoknaaDoor
namespace Pat
open Sh Mat Fix Opr
set_option linter.unusedVariables false
set_option linter.unusedSimpArgs false
set_option maxRecDepth 8000
set_option maxHeartbeats 4000000
/-- A number object in order. -/
def goodL (o : Ob) : Prop := goodK o ∧ o.1 ≠ 6 ∧ o.2.2.1 = 0 ∧ o.2.2.2.1 = ⟨#[]⟩ ∧ o.2.2.2.2.1 = nilS ∧ o.2.2.2.2.2 = nilS
theorem good_num {n : Int} (h : inW n = true) : goodL (numO n) := by
  have h := inW_spec.1 h
  unfold numO
  split
  · refine ⟨.inl ⟨rfl, ?_⟩, by simp, rfl, rfl, rfl, rfl⟩
    show -2147483647 ≤ Int.tdiv n 10000 ∧ Int.tdiv n 10000 ≤ 2147483647
    have := Int.natAbs_tdiv_le_natAbs n 10000
    omega
  · exact ⟨.inr (.inl ⟨rfl, h⟩), by simp, rfl, rfl, rfl, rfl⟩
section
variable {w w' w1 : World} {s : Slc} {L : List Ob} {o : Ob}
attribute [local irreducible] Ld Sh.St Nw Nn LdS LdT LdST StT
theorem v_leaf (h : goodL o) {d : Int} (hd : d ≤ 24) (w : World) : C40 o d w (fun w1 => Ext (fun _ => False) w w1) fun _ _ => False := by
  obtain ⟨h1, h2, h3, h4, h5, h6⟩ := h
  refine v_check h1 h3 h4 h5 (fun _ => h6) (by rw [h6]; show (0 : Nat) ≤ _; omega) hd w fun w1 e1 => ?_
  refine ⟨fun n st w2 => st = 0 ∧ w2 = w1, 0, ⟨rfl, rfl⟩, ?_⟩
  rintro n st w2 ⟨rfl, rfl⟩
  unfold S40L1
  rw [h6]
  exact Br.f rfl e1
theorem v_arr (hL : OV w s L) (hg : ∀ o ∈ L, goodL o) (hl : L.length ≤ 8191) : C40 (6, 0, 0, ⟨#[]⟩, nilS, s) 1 w (fun w1 => Ext (fun _ => False) w w1) fun _ _ => False := by
  have hlen := hL.1
  refine v_check (o := (6, 0, 0, ⟨#[]⟩, nilS, s)) (.inr (.inr ⟨rfl, rfl⟩)) rfl rfl rfl (fun h => absurd rfl h) (by show s.len ≤ _; omega) (by decide) w fun w1 e1 => ?_
  show Lp (σ := Int) (S40L1 1 s (fun w2 => Ext (fun _ => False) w w2) fun _ _ => False) 0 w1
  refine ⟨fun n st v => ∃ i : Nat, st = (i : Int) ∧ i ≤ L.length ∧ n = L.length - i ∧ Ext (fun _ => False) w v, L.length, ⟨0, rfl, by omega, rfl, e1⟩, ?_⟩
  rintro n st v ⟨i, rfl, hi, rfl, ev⟩
  unfold S40L1
  rw [hlen]
  refine Br.dec (fun q => ⟨by omega, by omega, ?_⟩) fun q => ev
  have lt : i < L.length := by omega
  have hLi : L[i]? = some L[i] := List.getElem?_eq_getElem lt
  have hgi := hg L[i] (List.getElem_mem lt)
  generalize L[i] = o at hLi hgi
  obtain ⟨ad, ha, c0, c1, c2, c3, c4, c5⟩ := (hL.keep ev).get hLi
  rw [ha, Int.toNat_natCast]
  refine Nn.of (Ld.mk c0 (Ld.mk c1 (Ld.mk c2 (Ld.mk c3 (Ld.mk c4 (Ld.mk c5 ?_))))))
  refine (Hn.start v).nw fun v2 H => ?_
  simp only [List.nil_append, add_lit, Nat.zero_add] at H ⊢
  iterate 6 (refine H.st 0 rfl (by simp) fun _ H => ?_; simp only [List.set_cons_zero, List.set_cons_succ] at H)
  iterate 6 refine H.ld 0 rfl rfl ?_
  refine (v_leaf hgi (by decide) _).mono ?_ fun _ _ h => h
  rintro w5 e5
  exact ⟨L.length - (i + 1), by omega, i + 1, by rw [i64_id (by omega)]; rfl, by omega, rfl, (ev.tr H.ext).tr e5⟩
theorem chk_ok : ChkOk := by
  intro w m s hm hL
  refine T17 (6, 0, 0, ⟨#[]⟩, nilS, s) _ _ _ ?_
  unfold S17
  refine (Hn.start w).nw fun w2 H => ?_
  simp only [List.nil_append, add_lit, Nat.zero_add] at H ⊢
  refine T38_F39 _ _ _ ?_
  unfold S38_F39
  refine H.nw fun w3 H => ?_
  simp only [List.cons_append, List.nil_append] at H
  have hg : ∀ o ∈ (comps m).map numO, goodL o := fun o ho => by
    obtain ⟨x, hx, rfl⟩ := List.mem_map.1 ho
    exact good_num (List.all_eq_true.1 hm x hx)
  have main : C39 (⟨w.heap.size, 0, none⟩ : Addr) w3 (fun w4 => Ext (fun _ => False) w3 w4) fun _ _ => False := by
    refine T39 _ _ _ _ ?_
    unfold S39
    simp only [add_lit, Nat.zero_add]
    iterate 6 refine H.ld 0 rfl rfl ?_
    exact v_arr (hL.keep H.ext) hg (by simp [comps])
  refine main.mono ?_ fun _ _ h => h.elim
  rintro w4 e4
  have H := H.keep e4
  refine H.st 1 rfl (by simp) fun w5 H => ?_
  simp only [List.set_cons_zero, List.set_cons_succ] at H
  refine T53_nil _ _ _ ?_
  unfold S53_nil
  exact H.ld 1 rfl rfl ⟨rfl, H.ext⟩
end
end Pat
end Go.Proofs.YtdchpkbpnfoknaaDoor

/- Code inside a fence: in a round of a range over a function, and where yield is called. Conditions: as for Sh. Written by program (genshy.py) but for the head. -/
namespace Go.Proofs.YtdchpkbpnfoknaaDoor
namespace Sh
open Go.RowKit
set_option linter.unusedVariables false
/-- A call of yield, by a function that is in no round. -/
def Yl (P : Program) (l : Nat) (args : Array Value) (w : World) (K : Bool → World → Prop) : Prop := YieldAt Fence.wide 0 P l args w fun e w' => ∃ b : Bool, e = .returned (.bool b) ∧ K b w'
def ylArg (E : Env) (o : Oper) : Option (Nat × Call) := match o.guard, o.op with
  | none, .call c => match c.callee with
    | .value f => match E.rho f with
      | .func (.yield l) a b => match a.toList, b.toList with
        | [], [] => some (l, c)
        | _, _ => none
      | _ => none
    | _ => none
  | _, _ => none
def noDf : Op → Bool
  | .defer _ => false
  | _ => true
def opsY (P : Program) (F : Fx) (ops : Array Oper) : List Oper → Env → World → (Env → World → Prop) → Prop
  | [], E, w, K => K E w
  | o :: r, E, w, K => match ylArg E o with
    | some lc => match hasAll E o.op with
      | true => Yl P lc.1 (lc.2.args.map E.rho) w fun b w' => opsY P F ops r (E.put o.dst (.bool b)) w' K
      | false => False
    | none => match noDf o.op with
      | true => opsT P F false ops [o] E w fun E w => opsY P F ops r E w K
      | false => False
def regY (P : Program) (F : Fx) (m : RMode) (ops : Array Oper) (d : Bool) (E : Env) (w : World) (K : Env → World → Prop) : Prop :=
  match d, m with
  | false, .seq => opsY P F ops ops.toList E w K
  | _, _ => False
def codeY (P : Program) (F : Fx) : Plan → Code → Env → World → (Exit → Env → World → Prop) → Prop
  | .reg m, .region _ ops d, E, w, K => regY P F m ops d E w fun E w => K .normal E w
  | .leaf, .skip, E, w, K => K .normal E w
  | .leaf, .label _, E, w, K => K .normal E w
  | .leaf, .exit id, E, w, K => K (.exit id) E w
  | .leaf, .ret, E, w, K => K .ret E w
  | .seq p q, .seq c d, E, w, K => codeY P F p c E w fun e E w => match e with
    | .normal => codeY P F q d E w K
    | e => K e E w
  | .join live keep p q, .seq c d, E, w, K => match keepOk keep c with
    | true => Join (fun s w => codeY P F q d (stPut live s ++ Env.keep E keep) w K) fun J => codeY P F p c E w fun e E w => match e with
      | .normal => stGet live E fun s => J s w
      | e => K e E w
    | false => False
  | .cond p q, .cond x c d, E, w, K => match E.rho x with
    | .bool b => Br b (codeY P F p c E w K) (codeY P F q d E w K)
    | _ => False
  | .block p, .block id c, E, w, K => codeY P F p c E w fun e E w => match e with
    | .exit i => match Nat.beq i id with
      | true => K .normal E w
      | false => K (.exit i) E w
    | e => K e E w
  | .loop live keep p, .loop c, E, w, K => match keepOk keep c with
    | true => stGet live E fun s0 => Lp (fun R s w => codeY P F p c (stPut live s ++ Env.keep E keep) w fun e E w => match e with
      | .normal => stGet live E fun s => R s w
      | e => K e E w) s0 w
    | false => False
  | _, _, _, _, _ => False


/-- A fence that keeps nothing out: the wide one, and it in a round. -/
structure InF (G : Fence) : Prop where
  fn : ∀ f, G.fn f
  dep : G.depth = none
  call : ∀ {P : Program} {f : FuncId} {args : Array Value} {w : World} {R : Ending → World → Prop}, Calls P f args w R → CallsIn G 0 P f args w R
  round : ∀ {P : Program} {l : Nat} {f : FuncId} {tmps : Array Value} {a b : Code} {w : World} {R : Ending → World → Prop}, RoundIn Fence.wide 0 P l f tmps a b w R → RoundIn G 0 P l f tmps a b w R
theorem InF.wide : InF Fence.wide := ⟨fun _ => trivial, rfl, fun h => callsIn_wide.2 h, fun h => h⟩
theorem InF.inRound (l : Nat) : InF (Fence.wide.inRound l) := ⟨fun _ => trivial, rfl, fun h => CallsIn.inRound l (callsIn_wide.2 h), fun h => h⟩
section
variable {P : Program} {F : Fx} {N : Nat} {G : Fence}
theorem out_uponIn (hG : InF G) {o : Oper} {a : Act} {next : Act → World → Prop} {Q : Exit → Act → World → Prop} {pk : Value → World → Prop} {K : Value → World → Prop} {r : Result Next} (h : OutP P pk K r)
    (hk : ∀ v w', K v w' → next (a.put o.dst v) w') (hp : ∀ v w', pk v w' → Q (.panic (onePanic v)) a w') : o.uponIn G 0 P a next Q r := by
  cases r with
  | halt x w =>
    cases x <;> try exact h.elim
    case panic v => exact hp _ _ h
  | ok n w =>
    cases n <;> try exact h.elim
    case value v => exact hk _ _ h
    case skip => exact hk _ _ h
    case enter f args =>
      rw [Oper.uponIn_enter]
      refine ⟨fun hd => by simp [hG.dep] at hd, hG.call (Calls.mono h fun e w' he => ?_)⟩
      rcases he with ⟨v, rfl, hv⟩ | ⟨v, rfl, hv⟩
      · exact hk _ _ hv
      · exact hp _ _ hv
theorem noDf_spec {o : Oper} (h : noDf o.op = true) : ∀ c, o.op ≠ .defer c := fun c e => by rw [e] at h; cases h
theorem ylArg_spec {E : Env} {o : Oper} {l : Nat} {c : Call} (h : ylArg E o = some (l, c)) : o.guard = none ∧ o.op = .call c ∧ ∃ f, c.callee = .value f ∧ E.rho f = .func (.yield l) #[] #[] := by
  unfold ylArg at h
  split at h
  · rename_i c' hg ho
    split at h
    · rename_i f hf
      split at h
      · rename_i l' a b hr
        split at h
        · rename_i ha hb
          simp only [Option.some.injEq, Prod.mk.injEq] at h
          obtain ⟨rfl, rfl⟩ := h
          refine ⟨hg, ho, f, hf, ?_⟩
          rw [hr]
          obtain ⟨a⟩ := a
          obtain ⟨b⟩ := b
          simp only at ha hb
          subst ha hb
          rfl
        · cases h
      · cases h
    · cases h
  · cases h
theorem run_execYield {E : Env} {o : Oper} {l : Nat} {c : Call} {f : Operand} (ho : o.op = .call c) (hc : c.callee = .value f) (hr : E.rho f = .func (.yield l) #[] #[]) (w : World) :
    (execOp E.rho o).run P w = ((Instr.yield l (c.args.map E.rho)).run P w) := by
  unfold execOp
  simp only [ho, resolve, hc, hr, Deferred.ofValue]
  simp [go_sem, invoke]
theorem opsY_in (hG : InF G) (hF : CallsOk P F.ok) {ops : Array Oper} {Q : Exit → Act → World → Prop} : ∀ (l : List Oper) (E : Env) (w : World) (K : Env → World → Prop) (a : Act),
    opsY P F ops l E w K → Fits N E a → dstOk N l → (∀ E' a' w', K E' w' → Fits N E' a' → frame l a a' → Q .normal a' w') →
    (∀ v a' w', F.pk v w' → Fits N [] a' → frame l a a' → Q (.panic (onePanic v)) a' w') → wpListIn G 0 P ops Q l a w
  | [], E, w, K, a, h, hf, _, hQ, _ => hQ E a w h hf (frame.refl _ _)
  | o :: r, E, w, K, a, h, hf, hd, hQ, hP => by
    have hd' : dstOk N r := fun p hp => hd p (List.mem_cons_of_mem _ hp)
    have ho := hd o List.mem_cons_self
    unfold wpListIn
    unfold opsY at h
    split at h
    · rename_i lc hy
      obtain ⟨l, c⟩ := lc
      obtain ⟨h1, h2, f, h3, h4⟩ := ylArg_spec hy
      split at h
      · rename_i hb
        rw [if_pos (by simp [Region.wanted, h1])]
        refine ⟨fun f _ => hG.fn f, ?_⟩
        rw [Oper.semAt_plain G _ o (fun c e => by rw [h2] at e; cases e), hasAll_exec hf hb, run_execYield h2 h3 h4]
        obtain ⟨fn, tmps, asg, body, e1, e2⟩ := h
        simp only at e1
        rw [e1, Oper.uponIn_round]
        refine ⟨fun hd => by simp [hG.dep] at hd, hG.round (e2.mono fun e w' he => ?_)⟩
        obtain ⟨b, rfl, hK⟩ := he
        exact opsY_in hG hF r _ w' K _ hK (hf.put ho) hd' (fun E'' a' w'' g1 g2 g3 => hQ _ _ _ g1 g2 (frame_cons g3)) fun v a' w'' g1 g2 g3 => hP v a' w'' g1 g2 (frame_cons g3)
      · exact h.elim
    · split at h
      · rename_i hnd
        unfold opsT at h
        rcases gdT_elim h hf with ⟨hw, E', hf', hy⟩ | ⟨hw, E', hf', hn⟩
        · rw [if_pos hw]
          refine ⟨fun f _ => hG.fn f, ?_⟩
          rw [Oper.semAt_plain G _ o (noDf_spec hnd)]
          split at hy
          · rename_i hb
            simp only [Bool.and_eq_true] at hb
            rw [hasAll_exec hf' hb.1]
            refine out_uponIn hG (opV_out hF hy) (fun v w' hk => ?_) fun v w' hp => hP v a w' hp hf.some (frame.refl _ _)
            exact opsY_in hG hF r _ w' K _ hk (hf'.put ho) hd' (fun E'' a' w'' h1 h2 h3 => hQ _ _ _ h1 h2 (frame_cons h3)) fun v a' w'' h1 h2 h3 => hP v a' w'' h1 h2 (frame_cons h3)
          · exact hy.elim
        · rw [if_neg (by rw [hw]; simp)]
          exact ⟨fun f _ => hG.fn f, opsY_in hG hF r _ w K _ hn (hf'.put ho) hd' (fun E'' a' w'' h1 h2 h3 => hQ _ _ _ h1 h2 (frame_cons h3)) fun v a' w'' h1 h2 h3 => hP v a' w'' h1 h2 (frame_cons h3)⟩
      · exact h.elim
theorem regY_in (hG : InF G) (hF : CallsOk P F.ok) {m : RMode} {id : Nat} {ops : Array Oper} {d : Bool} {E : Env} {w : World} {K : Env → World → Prop} {a : Act}
    (h : regY P F m ops d E w K) (hf : Fits N E a) (hd : dstOk N ops.toList) :
    (Code.region id ops d).wpIn G 0 P (HQ P F N ops a fun a' w' => ∃ E', K E' w' ∧ Fits N E' a' ∧ frame ops.toList a a') a w := by
  unfold regY at h
  split at h
  · exact wpIn_region_list (opsY_in hG hF _ _ _ _ _ h hf hd (fun E' a' w' h1 h2 h3 => .inl ⟨rfl, E', h1, h2, h3⟩) fun v a' w' h1 h2 h3 => .inr ⟨v, rfl, h1, h2, h3⟩)
  · exact h.elim
theorem codeY_in (hG : InF G) (hF : CallsOk P F.ok) : ∀ (c : Code) (pl : Plan) (E : Env) (w : World) (K : Exit → Env → World → Prop) (a : Act),
    codeY P F pl c E w K → Fits N E a → slotsOk N c = true → c.wpIn G 0 P (Post N F c K a) a w := by
  intro c
  induction c with
  | region id ops d =>
    intro pl E w K a h hf hs
    cases pl <;> try exact (show False from h).elim
    rename_i m
    have hfs : ∀ {a' : Act}, frame ops.toList a a' → Same (.region id ops d) a a' := fun h => ⟨fun t ht => h.1 t (wr_region ht), h.2⟩
    refine wpIn_mono (regY_in hG hF h hf (slotsOk_dst hs)) fun e a' w' hq => ?_
    rcases hq with ⟨he, E', h1, h2, h3⟩ | ⟨v, he, h1, h2, h3⟩
    · exact .inl ⟨E', by subst he; exact h1, h2, hfs h3⟩
    · exact .inr ⟨v, he, h1, h2, hfs h3⟩
  | skip =>
    intro pl E w K a h hf hs
    cases pl <;> try exact (show False from h).elim
    exact wpIn_skip (.inl ⟨E, h, hf, Same.refl _ _⟩)
  | label l =>
    intro pl E w K a h hf hs
    cases pl <;> try exact (show False from h).elim
    exact wpIn_label (.inl ⟨E, h, hf, Same.refl _ _⟩)
  | exit id =>
    intro pl E w K a h hf hs
    cases pl <;> try exact (show False from h).elim
    exact wpIn_exit (.inl ⟨E, h, hf, Same.refl _ _⟩)
  | ret =>
    intro pl E w K a h hf hs
    cases pl <;> try exact (show False from h).elim
    exact wpIn_ret (.inl ⟨E, h, hf, Same.refl _ _⟩)
  | seq c d ihc ihd =>
    intro pl E w K a h hf hs
    simp only [slotsOk, Bool.and_eq_true] at hs
    have wrs : ∀ t, wr t (.seq c d) = false → wr t c = false ∧ wr t d = false := fun t ht => by simpa [wr] using ht
    have sc : ∀ {a b : Act}, Same c a b → Same (.seq c d) a b := fun h => h.sub fun t ht => (wrs t ht).1
    have sd : ∀ {a b : Act}, Same d a b → Same (.seq c d) a b := fun h => h.sub fun t ht => (wrs t ht).2
    have post : ∀ {a' : Act} {e : Exit} {a'' : Act} {w'' : World}, Same c a a' → Post N F d K a' e a'' w'' → Post N F (.seq c d) K a e a'' w'' := fun h3 hq => by
      rcases hq with ⟨E'', g1, g2, g3⟩ | ⟨v, g0, g1, g2, g3⟩
      · exact .inl ⟨E'', g1, g2, (sc h3).trans (sd g3)⟩
      · exact .inr ⟨v, g0, g1, g2, (sc h3).trans (sd g3)⟩
    cases pl <;> try exact (show False from h).elim
    · rename_i p q
      refine wpIn_seq (wpIn_mono (ihc p E w _ a h hf hs.1) fun e a' w' hq => ?_)
      rcases hq with ⟨E', h1, h2, h3⟩ | ⟨v, rfl, h1, h2, h3⟩
      · cases e <;> try exact .inl ⟨E', h1, h2, sc h3⟩
        exact wpIn_mono (ihd q E' w' K a' h1 h2 hs.2) fun e a'' w'' hq => post h3 hq
      · exact .inr ⟨v, rfl, h1, h2, sc h3⟩
    · rename_i live keep p q
      replace h : match keepOk keep c with
        | true => Join (fun s w => codeY P F q d (stPut live s ++ Env.keep E keep) w K) fun J => codeY P F p c E w fun e E w => match e with
          | .normal => stGet live E fun s => J s w
          | e => K e E w
        | false => False := h
      split at h
      · rename_i hk
        obtain ⟨J, hb, hfr⟩ := h
        refine wpIn_seq (wpIn_mono (ihc p E w _ a hfr hf hs.1) fun e a' w' hq => ?_)
        rcases hq with ⟨E', h1, h2, h3⟩ | ⟨v, rfl, h1, h2, h3⟩
        · cases e <;> try exact .inl ⟨E', h1, h2, sc h3⟩
          obtain ⟨s, hJ, hst⟩ := stGet_elim (N := N) h1
          have hfit : Fits N (stPut live s ++ Env.keep E keep) a' := append_fits (hst a' h2) (keep_held hf keep fun t ht => h3.1 t (keepOk_wr hk t ht)) h2.size
          exact wpIn_mono (ihd q _ w' K a' (hb s w' hJ) hfit hs.2) fun e a'' w'' hq => post h3 hq
        · exact .inr ⟨v, rfl, h1, h2, sc h3⟩
      · exact h.elim
  | cond x c d ihc ihd =>
    intro pl E w K a h hf hs
    simp only [slotsOk, Bool.and_eq_true] at hs
    have wrs : ∀ t, wr t (.cond x c d) = false → wr t c = false ∧ wr t d = false := fun t ht => by simpa [wr] using ht
    have sc : ∀ {a b : Act}, Same c a b → Same (.cond x c d) a b := fun h => h.sub fun t ht => (wrs t ht).1
    have sd : ∀ {a b : Act}, Same d a b → Same (.cond x c d) a b := fun h => h.sub fun t ht => (wrs t ht).2
    cases pl <;> try exact (show False from h).elim
    rename_i p q
    replace h : match E.rho x with
      | .bool b => Br b (codeY P F p c E w K) (codeY P F q d E w K)
      | _ => False := h
    split at h
    · rename_i b hb
      rcases Br_elim h with ⟨rfl, h⟩ | ⟨rfl, h⟩
      · refine wpIn_cond_true (rho_bool hf hb) (wpIn_mono (ihc p E w K a h hf hs.1) fun e a' w' hq => ?_)
        rcases hq with ⟨E', h1, h2, h3⟩ | ⟨v, h0, h1, h2, h3⟩
        · exact .inl ⟨E', h1, h2, sc h3⟩
        · exact .inr ⟨v, h0, h1, h2, sc h3⟩
      · refine wpIn_cond_false (rho_bool hf hb) (wpIn_mono (ihd q E w K a h hf hs.2) fun e a' w' hq => ?_)
        rcases hq with ⟨E', h1, h2, h3⟩ | ⟨v, h0, h1, h2, h3⟩
        · exact .inl ⟨E', h1, h2, sd h3⟩
        · exact .inr ⟨v, h0, h1, h2, sd h3⟩
    · exact h.elim
  | block id c ih =>
    intro pl E w K a h hf hs
    have sc : ∀ {a b : Act}, Same c a b → Same (.block id c) a b := fun h => h.sub fun t ht => by simpa [wr] using ht
    cases pl <;> try exact (show False from h).elim
    rename_i p
    refine wpIn_block (wpIn_mono (ih p E w _ a h hf hs) fun e a' w' hq => ?_)
    rcases hq with ⟨E', h1, h2, h3⟩ | ⟨v, rfl, h1, h2, h3⟩
    · cases e with
      | exit i =>
        replace h1 : match Nat.beq i id with
          | true => K .normal E' w'
          | false => K (.exit i) E' w' := h1
        show if i = id then _ else _
        cases hb : Nat.beq i id with
        | true => rw [hb] at h1; rw [if_pos (beq_eq hb)]; exact .inl ⟨E', h1, h2, sc h3⟩
        | false => rw [hb] at h1; rw [if_neg (fun e => by subst e; simp at hb)]; exact .inl ⟨E', h1, h2, sc h3⟩
      | _ => exact .inl ⟨E', h1, h2, sc h3⟩
    · exact .inr ⟨v, rfl, h1, h2, sc h3⟩
  | loop c ih =>
    intro pl E w K a h hf hs
    have sc : ∀ {a b : Act}, Same c a b → Same (.loop c) a b := fun h => h.sub fun t ht => by simpa [wr] using ht
    cases pl <;> try exact (show False from h).elim
    rename_i live keep p
    replace h : match keepOk keep c with
      | true => stGet live E fun s0 => Lp (fun R s w => codeY P F p c (stPut live s ++ Env.keep E keep) w fun e E w => match e with
        | .normal => stGet live E fun s => R s w
        | e => K e E w) s0 w
      | false => False := h
    split at h
    · rename_i hk
      obtain ⟨s0, ⟨I, n0, h0, hround⟩, hst0⟩ := stGet_elim (N := N) h
      refine wpIn_loop_ghost (rm := 0) (fun n a' w' => ∃ s, I n s w' ∧ Fits N (stPut live s ++ Env.keep E keep) a' ∧ Same c a a') n0
        ⟨s0, h0, append_fits (hst0 a hf) (keep_held hf keep fun _ _ => rfl) hf.size, Same.refl _ _⟩ ?_
      rintro n a' w' ⟨s, hI, hfit, hfr⟩
      refine wpIn_mono (ih p _ w' _ a' (hround n s w' hI) hfit hs) fun e a'' w'' hq => ?_
      rcases hq with ⟨E'', g1, g2, g3⟩ | ⟨v, rfl, g1, g2, g3⟩
      · have hfr' := hfr.trans g3
        cases e <;> try exact .inl ⟨E'', g1, g2, sc hfr'⟩
        obtain ⟨s', ⟨n', hlt, hI'⟩, hst⟩ := stGet_elim (N := N) g1
        exact ⟨n', hlt, s', hI', append_fits (hst a'' g2) (keep_held hf keep fun t ht => hfr'.1 t (keepOk_wr hk t ht)) g2.size, hfr'⟩
      · exact .inr ⟨v, rfl, g1, g2, sc (hfr.trans g3)⟩
    · exact h.elim
  | _ =>
    intro pl E w K a h hf hs
    cases pl <;> exact (show False from h).elim


/-- What a call of a function must satisfy that calls yield. -/
def fnY (P : Program) (F : Fx) (pl : Plan) (fn : Func) (args : List Value) (w : World) (tys : List Ty) (R : Sg tys → World → Prop) : Prop :=
  match fn.body with
  | none => False
  | some c => codeY P F pl c (env0 0 args) w fun e E w => match e with
    | .normal => resT P fn.results.toList E w fun vs => match Sg.get? tys vs with
      | some s => R s w
      | none => False
    | .ret => resT P fn.results.toList E w fun vs => match Sg.get? tys vs with
      | some s => R s w
      | none => False
    | _ => False
theorem fnY_calls {ok may : Nat → Bool} (hF : CallsOk P ok) {f : FuncId} {fn : Func} {pl : Plan} {args : List Value} {w : World} {tys : List Ty} {R : Sg tys → World → Prop}
    (hf : P.funcs[f]? = some fn) (hN : (match fn.body with
      | some c => slotsOk fn.ntmps c
      | none => false) = true) (ha : Nat.ble args.length fn.ntmps = true)
    (h : fnY P ⟨ok, may, fun _ _ => False⟩ pl fn args w tys R) : CallsIn Fence.wide 0 P f args.toArray w fun e w' => ∃ s : Sg tys, e = .returned (callV.retV (Sg.vals tys s)) ∧ R s w' := by
  unfold fnY at h
  split at h
  · exact h.elim
  · rename_i c hc
    rw [hc] at hN
    refine callsIn_of_wp hf hc trivial ?_ rfl
    refine wpIn_mono (codeY_in (F := ⟨ok, may, fun _ _ => False⟩) InF.wide hF c pl _ w _ _ h (fits0 (Nat.le_of_ble_eq_true ha)) hN) fun e a' w' hq => ?_
    rcases hq with ⟨E', h1, h2, h3⟩ | ⟨v, rfl, h1, h2, h3⟩
    · have fin : finT P fn tys R E' w' → a'.defers = [] ∧ ∃ v, (results fn a'.tmps).run P w' = .ok v w' ∧ ∃ s : Sg tys, Ending.returned v = .returned (callV.retV (Sg.vals tys s)) ∧ R s w' := fun h => by
        obtain ⟨v, g1, g2⟩ := fin_run h2 h
        exact ⟨h3.2, v, g1, g2⟩
      cases e with
      | normal => exact fin h1
      | ret => exact fin h1
      | _ => exact h1.elim
    · exact h1.elim
end
end Sh
end Go.Proofs.YtdchpkbpnfoknaaDoor
