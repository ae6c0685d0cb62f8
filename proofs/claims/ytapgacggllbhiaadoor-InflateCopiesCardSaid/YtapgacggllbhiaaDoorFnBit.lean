/- The formulas of 17 functions of the program, written by program (gen.py); the kernel checks each. No condition. -/
import Derived.Test.YtapgacggllbhiaaDoorFn
namespace Go.Proofs.YtapgacggllbhiaaDoor
open Sh
set_option linter.unusedVariables false
set_option maxRecDepth 100000

def C19 (w : World) (R : Option Addr → World → Prop) : Prop :=
  Calls Tryd.prog 19 #[] w fun e w' => ∃ r0 : Option Addr, e = .returned (.pointer r0) ∧ R r0 w'
theorem C19.mono {w : World} {R R' : Option Addr → World → Prop} (h : C19 w R) (hr : ∀ r0 w', R r0 w' → R' r0 w') : C19 w R' :=
  Calls.mono h fun _ _ ⟨r0, he, hR⟩ => ⟨r0, he, hr _ _ hR⟩
def C57 (x1 : Option Addr) (way2 : Int) (w : World) (R : Bool → World → Prop) : Prop :=
  Calls Tryd.prog 57 #[.pointer x1, .int .i64 way2] w fun e w' => ∃ r0 : Bool, e = .returned (.bool r0) ∧ R r0 w'
theorem C57.mono {x1 : Option Addr} {way2 : Int} {w : World} {R R' : Bool → World → Prop} (h : C57 x1 way2 w R) (hr : ∀ r0 w', R r0 w' → R' r0 w') : C57 x1 way2 w R' :=
  Calls.mono h fun _ _ ⟨r0, he, hR⟩ => ⟨r0, he, hr _ _ hR⟩
def C75 (x1 : Option Addr) (way2 : Int) (w : World) (R : Int → World → Prop) : Prop :=
  Calls Tryd.prog 75 #[.pointer x1, .int .i64 way2] w fun e w' => ∃ r0 : Int, e = .returned (.int .i64 r0) ∧ R r0 w'
theorem C75.mono {x1 : Option Addr} {way2 : Int} {w : World} {R R' : Int → World → Prop} (h : C75 x1 way2 w R) (hr : ∀ r0 w', R r0 w' → R' r0 w') : C75 x1 way2 w R' :=
  Calls.mono h fun _ _ ⟨r0, he, hR⟩ => ⟨r0, he, hr _ _ hR⟩
def C58 (vw1 : Option Addr) (b2 : Int) (way3 : Int) (w : World) (R : World → Prop) : Prop :=
  Calls Tryd.prog 58 #[.pointer vw1, .int .i64 b2, .int .i64 way3] w fun e w' => e = .returned (.tuple #[]) ∧ R w'
theorem C58.mono {vw1 : Option Addr} {b2 : Int} {way3 : Int} {w : World} {R R' : World → Prop} (h : C58 vw1 b2 way3 w R) (hr : ∀ w', R w' → R' w') : C58 vw1 b2 way3 w R' :=
  Calls.mono h fun _ _ ⟨he, hR⟩ => ⟨he, hr _ hR⟩
def C43 (vw1 : Option Addr) (v2 : Int) (n3 : Int) (way4 : Int) (w : World) (R : Int → World → Prop) : Prop :=
  Calls Tryd.prog 43 #[.pointer vw1, .int .i64 v2, .int .i64 n3, .int .i64 way4] w fun e w' => ∃ r0 : Int, e = .returned (.int .i64 r0) ∧ R r0 w'
theorem C43.mono {vw1 : Option Addr} {v2 : Int} {n3 : Int} {way4 : Int} {w : World} {R R' : Int → World → Prop} (h : C43 vw1 v2 n3 way4 w R) (hr : ∀ r0 w', R r0 w' → R' r0 w') : C43 vw1 v2 n3 way4 w R' :=
  Calls.mono h fun _ _ ⟨r0, he, hR⟩ => ⟨r0, he, hr _ _ hR⟩
def C20 (vw1 : Option Addr) (v2 : Int) (n3 : Int) (w : World) (R : Int → World → Prop) : Prop :=
  Calls Tryd.prog 20 #[.pointer vw1, .int .i64 v2, .int .i64 n3] w fun e w' => ∃ r0 : Int, e = .returned (.int .i64 r0) ∧ R r0 w'
theorem C20.mono {vw1 : Option Addr} {v2 : Int} {n3 : Int} {w : World} {R R' : Int → World → Prop} (h : C20 vw1 v2 n3 w R) (hr : ∀ r0 w', R r0 w' → R' r0 w') : C20 vw1 v2 n3 w R' :=
  Calls.mono h fun _ _ ⟨r0, he, hR⟩ => ⟨r0, he, hr _ _ hR⟩
def C24 (vw1 : Option Addr) (w : World) (R : World → Prop) : Prop :=
  Calls Tryd.prog 24 #[.pointer vw1] w fun e w' => e = .returned (.tuple #[]) ∧ R w'
theorem C24.mono {vw1 : Option Addr} {w : World} {R R' : World → Prop} (h : C24 vw1 w R) (hr : ∀ w', R w' → R' w') : C24 vw1 w R' :=
  Calls.mono h fun _ _ ⟨he, hR⟩ => ⟨he, hr _ hR⟩
def C44 (s1 : Slc) (w : World) (R : Slc → World → Prop) : Prop :=
  Calls Tryd.prog 44 #[Slc.v s1] w fun e w' => ∃ r0 : Slc, e = .returned (Slc.v r0) ∧ R r0 w'
theorem C44.mono {s1 : Slc} {w : World} {R R' : Slc → World → Prop} (h : C44 s1 w R) (hr : ∀ r0 w', R r0 w' → R' r0 w') : C44 s1 w R' :=
  Calls.mono h fun _ _ ⟨r0, he, hR⟩ => ⟨r0, he, hr _ _ hR⟩
def C25 (vw1 : Option Addr) (w : World) (R : ByteArray → World → Prop) : Prop :=
  Calls Tryd.prog 25 #[.pointer vw1] w fun e w' => ∃ r0 : ByteArray, e = .returned (.string r0) ∧ R r0 w'
theorem C25.mono {vw1 : Option Addr} {w : World} {R R' : ByteArray → World → Prop} (h : C25 vw1 w R) (hr : ∀ r0 w', R r0 w' → R' r0 w') : C25 vw1 w R' :=
  Calls.mono h fun _ _ ⟨r0, he, hR⟩ => ⟨r0, he, hr _ _ hR⟩
def C28 (s1 : ByteArray) (w : World) (R : Option Addr → World → Prop) : Prop :=
  Calls Tryd.prog 28 #[.string s1] w fun e w' => ∃ r0 : Option Addr, e = .returned (.pointer r0) ∧ R r0 w'
theorem C28.mono {s1 : ByteArray} {w : World} {R R' : Option Addr → World → Prop} (h : C28 s1 w R) (hr : ∀ r0 w', R r0 w' → R' r0 w') : C28 s1 w R' :=
  Calls.mono h fun _ _ ⟨r0, he, hR⟩ => ⟨r0, he, hr _ _ hR⟩
def C30 (r1 : Option Addr) (w : World) (R : Int → World → Prop) : Prop :=
  Calls Tryd.prog 30 #[.pointer r1] w fun e w' => ∃ r0 : Int, e = .returned (.int .i64 r0) ∧ R r0 w'
theorem C30.mono {r1 : Option Addr} {w : World} {R R' : Int → World → Prop} (h : C30 r1 w R) (hr : ∀ r0 w', R r0 w' → R' r0 w') : C30 r1 w R' :=
  Calls.mono h fun _ _ ⟨r0, he, hR⟩ => ⟨r0, he, hr _ _ hR⟩
def C80 (r1 : Option Addr) (w : World) (R : Int → World → Prop) : Prop :=
  Calls Tryd.prog 80 #[.pointer r1] w fun e w' => ∃ r0 : Int, e = .returned (.int .i64 r0) ∧ R r0 w'
theorem C80.mono {r1 : Option Addr} {w : World} {R R' : Int → World → Prop} (h : C80 r1 w R) (hr : ∀ r0 w', R r0 w' → R' r0 w') : C80 r1 w R' :=
  Calls.mono h fun _ _ ⟨r0, he, hR⟩ => ⟨r0, he, hr _ _ hR⟩
def C81 (r1 : Option Addr) (way2 : Int) (w : World) (R : Int → World → Prop) : Prop :=
  Calls Tryd.prog 81 #[.pointer r1, .int .i64 way2] w fun e w' => ∃ r0 : Int, e = .returned (.int .i64 r0) ∧ R r0 w'
theorem C81.mono {r1 : Option Addr} {way2 : Int} {w : World} {R R' : Int → World → Prop} (h : C81 r1 way2 w R) (hr : ∀ r0 w', R r0 w' → R' r0 w') : C81 r1 way2 w R' :=
  Calls.mono h fun _ _ ⟨r0, he, hR⟩ => ⟨r0, he, hr _ _ hR⟩
def C76 (r1 : Option Addr) (n2 : Int) (way3 : Int) (w : World) (R : Int → Int → World → Prop) : Prop :=
  Calls Tryd.prog 76 #[.pointer r1, .int .i64 n2, .int .i64 way3] w fun e w' => ∃ r0 : Int, ∃ r1 : Int, e = .returned (.tuple #[.int .i64 r0, .int .i64 r1]) ∧ R r0 r1 w'
theorem C76.mono {r1 : Option Addr} {n2 : Int} {way3 : Int} {w : World} {R R' : Int → Int → World → Prop} (h : C76 r1 n2 way3 w R) (hr : ∀ r0 r1 w', R r0 r1 w' → R' r0 r1 w') : C76 r1 n2 way3 w R' :=
  Calls.mono h fun _ _ ⟨r0, r1, he, hR⟩ => ⟨r0, r1, he, hr _ _ _ hR⟩
def C60 (r1 : Option Addr) (n2 : Int) (w : World) (R : Int → Int → World → Prop) : Prop :=
  Calls Tryd.prog 60 #[.pointer r1, .int .i64 n2] w fun e w' => ∃ r0 : Int, ∃ r1 : Int, e = .returned (.tuple #[.int .i64 r0, .int .i64 r1]) ∧ R r0 r1 w'
theorem C60.mono {r1 : Option Addr} {n2 : Int} {w : World} {R R' : Int → Int → World → Prop} (h : C60 r1 n2 w R) (hr : ∀ r0 r1 w', R r0 r1 w' → R' r0 r1 w') : C60 r1 n2 w R' :=
  Calls.mono h fun _ _ ⟨r0, r1, he, hR⟩ => ⟨r0, r1, he, hr _ _ _ hR⟩
def C61 (r1 : Option Addr) (w : World) (R : World → Prop) : Prop :=
  Calls Tryd.prog 61 #[.pointer r1] w fun e w' => e = .returned (.tuple #[]) ∧ R w'
theorem C61.mono {r1 : Option Addr} {w : World} {R R' : World → Prop} (h : C61 r1 w R) (hr : ∀ w', R w' → R' w') : C61 r1 w R' :=
  Calls.mono h fun _ _ ⟨he, hR⟩ => ⟨he, hr _ hR⟩
def C64 (r1 : Option Addr) (n2 : Int) (w : World) (R : ByteArray → Int → World → Prop) : Prop :=
  Calls Tryd.prog 64 #[.pointer r1, .int .i64 n2] w fun e w' => ∃ r0 : ByteArray, ∃ r1 : Int, e = .returned (.tuple #[.string r0, .int .i64 r1]) ∧ R r0 r1 w'
theorem C64.mono {r1 : Option Addr} {n2 : Int} {w : World} {R R' : ByteArray → Int → World → Prop} (h : C64 r1 n2 w R) (hr : ∀ r0 r1 w', R r0 r1 w' → R' r0 r1 w') : C64 r1 n2 w R' :=
  Calls.mono h fun _ _ ⟨r0, r1, he, hR⟩ => ⟨r0, r1, he, hr _ _ _ hR⟩

/-- foliant/bit.New -/
def S19 (w : World) (R : Option Addr → World → Prop) : Prop :=
  Nw w (.cells #[.int .i64 0, .int .i64 0, Slc.v ((⟨none, 0, 0⟩ : Slc))] 83) fun vw1 =>
  R (some (⟨w.heap.size, 0, none⟩ : Addr)) vw1
def pl19 : Plan := (.seq (.reg .seq) (.seq (.reg .seq) .leaf))
set_option maxRecDepth 100000 in
theorem T19 (w : World) (R : Option Addr → World → Prop) (h : S19 w R) : C19 w R := by
  have e : fnT Tryd.prog ⟨FF, MAY, (fun _ _ => False)⟩ pl19 Tryd.f19 [] w [(.one .ptr)] (fun s w => R s w) = S19 w R := by kernel_rfl
  exact (fn_calls okF okM Tryd.func19 (by kernel_rfl) (by kernel_rfl) (e.mpr h)).mono fun _ _ ⟨s, he, hR⟩ => ⟨s, he, hR⟩

/-- (*foliant/bit.side).other -/
def S57 (x1 : Option Addr) (way2 : Int) (w : World) (R : Bool → World → Prop) : Prop :=
  Nn x1 fun a3 =>
  Ld w a3 (Value.int .i64) fun (x4 : Int) =>
  Br (x4 != 0) (Nn x1 fun a5 =>
    Ld w a5 (Value.int .i64) fun (x6 : Int) =>
    R (x6 != way2) w) (R false w)
def pl57 : Plan := (.seq (.reg .seq) (.seq (.reg .seq) .leaf))
set_option maxRecDepth 100000 in
theorem T57 (x1 : Option Addr) (way2 : Int) (w : World) (R : Bool → World → Prop) (h : S57 x1 way2 w R) : C57 x1 way2 w R := by
  have e : fnT Tryd.prog ⟨FF, MAY, (fun _ _ => False)⟩ pl57 Tryd.f57 [.pointer x1, .int .i64 way2] w [(.one .bool)] (fun s w => R s w) = S57 x1 way2 w R := by kernel_rfl
  exact (fn_calls okF okM Tryd.func57 (by kernel_rfl) (by kernel_rfl) (e.mpr h)).mono fun _ _ ⟨s, he, hR⟩ => ⟨s, he, hR⟩

/-- (*foliant/bit.side).place -/
def S75 (x1 : Option Addr) (way2 : Int) (w : World) (R : Int → World → Prop) : Prop :=
  Br (way2 == 1) (Nn x1 fun a5 =>
    Ld w (a5.add 1) (Value.int .i64) fun (x6 : Int) =>
    R x6 w) (Nn x1 fun a7 =>
    Ld w (a7.add 1) (Value.int .i64) fun (x8 : Int) =>
    R (IntKind.i64.wrap (7 - x8)) w)
def pl75 : Plan := (.seq (.reg .seq) (.seq (.seq (.reg .seq) (.cond (.seq (.reg .seq) .leaf) .leaf)) (.seq (.reg .seq) .leaf)))
set_option maxRecDepth 100000 in
theorem T75 (x1 : Option Addr) (way2 : Int) (w : World) (R : Int → World → Prop) (h : S75 x1 way2 w R) : C75 x1 way2 w R := by
  have e : fnT Tryd.prog ⟨FF, MAY, (fun _ _ => False)⟩ pl75 Tryd.f75 [.pointer x1, .int .i64 way2] w [(.one (.int .i64))] (fun s w => R s w) = S75 x1 way2 w R := by kernel_rfl
  exact (fn_calls okF okM Tryd.func75 (by kernel_rfl) (by kernel_rfl) (e.mpr h)).mono fun _ _ ⟨s, he, hR⟩ => ⟨s, he, hR⟩

/-- (*foliant/bit.Writer).one -/
def S58 (vw1 : Option Addr) (b2 : Int) (way3 : Int) (w : World) (R : World → Prop) : Prop :=
  Nn vw1 fun a13 =>
  Ld w (a13.add 1) (Value.int .i64) fun (x14 : Int) =>
  Br (x14 == 0) (Nn vw1 fun a15 =>
    Ld w (a15.add 2) Slc.v fun (x16 : Slc) =>
    Nw w (.cells #[.int .u8 0] 5) fun vw17 =>
    Rn Tryd.prog (Builtin.append_ #[34, 34] 34 #[Slc.v x16, Slc.v ((⟨some ⟨w.heap.size, 0, none⟩, 1, 1⟩ : Slc))]) vw17 Slc.v fun (x18 : Slc) vw19 =>
    Nn vw1 fun a20 =>
    St vw19 (a20.add 2) (Slc.v x18) fun vw21 =>
    ∃ vS22 : World → Prop, vS22 vw21.drew ∧ Nn vw1 fun a23 =>
    LdS vS22 (a23.add 2) Slc.v fun (x24 : Slc) =>
    Nn vw1 fun a25 =>
    LdS vS22 (a25.add 2) Slc.v fun (x26 : Slc) =>
    0 ≤ (IntKind.i64.wrap (((x26.len : Nat) : Int) - 1)) ∧ (IntKind.i64.wrap (((x26.len : Nat) : Int) - 1)) < (x24.len : Nat) ∧ Nn x24.p fun a27 =>
    LdS vS22 (a27.add ((IntKind.i64.wrap (((x26.len : Nat) : Int) - 1)).toNat * 1)) (Value.int .u8) fun (x28 : Int) =>
    Nn vw1 fun a29 =>
    C75 (some a29) way3 vw21.drew fun r30 vw31 =>
      vS22 vw31 ∧ 0 ≤ r30 ∧ 0 ≤ (IntKind.i64.wrap (((x26.len : Nat) : Int) - 1)) ∧ (IntKind.i64.wrap (((x26.len : Nat) : Int) - 1)) < (x24.len : Nat) ∧ Nn x24.p fun a32 =>
      St vw31 (a32.add ((IntKind.i64.wrap (((x26.len : Nat) : Int) - 1)).toNat * 1)) (.int .u8 (ior .u8 x28 (IntKind.u8.wrap (IntKind.i64.wrap (b2 * 2 ^ (min (r30).toNat 64)))))) fun vw33 =>
      Nn vw1 fun a34 =>
      Ld vw33 (a34.add 1) (Value.int .i64) fun (x35 : Int) =>
      Nn vw1 fun a36 =>
      St vw33 (a36.add 1) (.int .i64 (Int.tmod (IntKind.i64.wrap (x35 + 1)) 8)) fun vw37 =>
      R vw37) (∃ vS38 : World → Prop, vS38 w.drew ∧ Nn vw1 fun a39 =>
    LdS vS38 (a39.add 2) Slc.v fun (x40 : Slc) =>
    Nn vw1 fun a41 =>
    LdS vS38 (a41.add 2) Slc.v fun (x42 : Slc) =>
    0 ≤ (IntKind.i64.wrap (((x42.len : Nat) : Int) - 1)) ∧ (IntKind.i64.wrap (((x42.len : Nat) : Int) - 1)) < (x40.len : Nat) ∧ Nn x40.p fun a43 =>
    LdS vS38 (a43.add ((IntKind.i64.wrap (((x42.len : Nat) : Int) - 1)).toNat * 1)) (Value.int .u8) fun (x44 : Int) =>
    Nn vw1 fun a45 =>
    C75 (some a45) way3 w.drew fun r46 vw47 =>
      vS38 vw47 ∧ 0 ≤ r46 ∧ 0 ≤ (IntKind.i64.wrap (((x42.len : Nat) : Int) - 1)) ∧ (IntKind.i64.wrap (((x42.len : Nat) : Int) - 1)) < (x40.len : Nat) ∧ Nn x40.p fun a48 =>
      St vw47 (a48.add ((IntKind.i64.wrap (((x42.len : Nat) : Int) - 1)).toNat * 1)) (.int .u8 (ior .u8 x44 (IntKind.u8.wrap (IntKind.i64.wrap (b2 * 2 ^ (min (r46).toNat 64)))))) fun vw49 =>
      Nn vw1 fun a50 =>
      Ld vw49 (a50.add 1) (Value.int .i64) fun (x51 : Int) =>
      Nn vw1 fun a52 =>
      St vw49 (a52.add 1) (.int .i64 (Int.tmod (IntKind.i64.wrap (x51 + 1)) 8)) fun vw53 =>
      R vw53)
def pl58 : Plan := (.seq (.seq (.reg .seq) (.cond (.reg .seq) .leaf)) (.seq (.reg (.held [22] (.take 0 (.take 1 (.take 2 (.take 3 (.take 4 (.take 5 (.take 6 (.take 7 (.take 8 (.take 9 (.take 10 (.take 11 (.take 12 (.take 13 (.take 14 (.take 15 (.take 16 (.eff 17 none (.take 18 (.take 19 (.take 20 (.take 21 (.eff 22 (some []) .done))))))))))))))))))))))))) (.reg .seq)))
set_option maxRecDepth 100000 in
theorem T58 (vw1 : Option Addr) (b2 : Int) (way3 : Int) (w : World) (R : World → Prop) (h : S58 vw1 b2 way3 w R) : C58 vw1 b2 way3 w R := by
  have e : fnT Tryd.prog ⟨FF, MAY, (fun _ _ => False)⟩ pl58 Tryd.f58 [.pointer vw1, .int .i64 b2, .int .i64 way3] w [] (fun _ w => R w) = S58 vw1 b2 way3 w R := by kernel_rfl
  exact (fn_calls okF okM Tryd.func58 (by kernel_rfl) (by kernel_rfl) (e.mpr h)).mono fun _ _ ⟨_, he, hR⟩ => ⟨he, hR⟩

def S43L1 (vw1 : Option Addr) (v2 : Int) (n3 : Int) (way4 : Int) (R : Int → World → Prop) (I19 : Int → World → Prop) (s17 : Int) (vw18 : World) : Prop :=
  Br (decide (s17 < n3)) (Br (way4 == 2) (0 ≤ (IntKind.i64.wrap ((IntKind.i64.wrap (n3 - 1)) - s17)) ∧ Lt (iand .i64 (Int.fdiv v2 (2 ^ (min (IntKind.i64.wrap ((IntKind.i64.wrap (n3 - 1)) - s17)).toNat 64))) 1) fun (x20 : Int) =>
      C58 vw1 x20 way4 vw18 fun vw21 =>
        I19 (IntKind.i64.wrap (s17 + 1)) vw21) (0 ≤ s17 ∧ C58 vw1 (iand .i64 (Int.fdiv v2 (2 ^ (min (s17).toNat 64))) 1) way4 vw18 fun vw22 =>
        I19 (IntKind.i64.wrap (s17 + 1)) vw22)) (Br (decide (n3 > 0)) (Nn vw1 fun a23 =>
      St vw18 a23 (.int .i64 way4) fun vw24 =>
      R 0 vw24) (R 0 vw18))
/-- (*foliant/bit.Writer).put -/
def S43 (vw1 : Option Addr) (v2 : Int) (n3 : Int) (way4 : Int) (w : World) (R : Int → World → Prop) : Prop :=
  Br vw1.isNone (R 1 w) (Br (decide (n3 < 0)) (R 1 w) (Br (decide (n3 > 24)) (R 1 w) (Br (decide (v2 < 0)) (R 1 w) (0 ≤ n3 ∧ Br (decide (v2 ≥ (IntKind.i64.wrap (1 * 2 ^ (min (n3).toNat 64))))) (R 1 w) (Nn vw1 fun a8 =>
            C57 (some a8) way4 w fun r9 vw10 =>
              Br r9 (R 1 vw10) (Lp (σ := Int) (S43L1 vw1 v2 n3 way4 R) 0 vw10))))))
def pl43 : Plan := (.seq (.reg .seq) (.seq (.seq (.reg .seq) (.cond (.seq (.reg .seq) .leaf) .leaf)) (.seq (.seq (.reg .seq) (.block (.loop [(38, (.one (.int .i64)))] [0, 1, 2, 3, 37] (.seq (.reg .seq) (.seq (.cond .leaf .leaf) (.seq (.block (.seq (.reg .seq) (.seq (.seq (.reg .seq) (.cond (.reg .seq) .leaf)) (.reg .seq)))) (.reg .seq))))))) (.seq (.seq (.reg .seq) (.cond (.reg .seq) .leaf)) (.seq (.reg .seq) .leaf)))))
set_option maxRecDepth 100000 in
theorem T43 (vw1 : Option Addr) (v2 : Int) (n3 : Int) (way4 : Int) (w : World) (R : Int → World → Prop) (h : S43 vw1 v2 n3 way4 w R) : C43 vw1 v2 n3 way4 w R := by
  have e : fnT Tryd.prog ⟨FF, MAY, (fun _ _ => False)⟩ pl43 Tryd.f43 [.pointer vw1, .int .i64 v2, .int .i64 n3, .int .i64 way4] w [(.one (.int .i64))] (fun s w => R s w) = S43 vw1 v2 n3 way4 w R := by kernel_rfl
  exact (fn_calls okF okM Tryd.func43 (by kernel_rfl) (by kernel_rfl) (e.mpr h)).mono fun _ _ ⟨s, he, hR⟩ => ⟨s, he, hR⟩

/-- (*foliant/bit.Writer).Low -/
def S20 (vw1 : Option Addr) (v2 : Int) (n3 : Int) (w : World) (R : Int → World → Prop) : Prop :=
  C43 vw1 v2 n3 1 w fun r4 vw5 =>
    R r4 vw5
def pl20 : Plan := (.seq (.reg .seq) (.seq (.reg .seq) .leaf))
set_option maxRecDepth 100000 in
theorem T20 (vw1 : Option Addr) (v2 : Int) (n3 : Int) (w : World) (R : Int → World → Prop) (h : S20 vw1 v2 n3 w R) : C20 vw1 v2 n3 w R := by
  have e : fnT Tryd.prog ⟨FF, MAY, (fun _ _ => False)⟩ pl20 Tryd.f20 [.pointer vw1, .int .i64 v2, .int .i64 n3] w [(.one (.int .i64))] (fun s w => R s w) = S20 vw1 v2 n3 w R := by kernel_rfl
  exact (fn_calls okF okM Tryd.func20 (by kernel_rfl) (by kernel_rfl) (e.mpr h)).mono fun _ _ ⟨s, he, hR⟩ => ⟨s, he, hR⟩

/-- (*foliant/bit.Writer).Align -/
def S24 (vw1 : Option Addr) (w : World) (R : World → Prop) : Prop :=
  Br (!(vw1.isNone)) (Nn vw1 fun a2 =>
    St w a2 (.int .i64 0) fun vw3 =>
    St vw3 (a2.add 1) (.int .i64 0) fun vw4 =>
    R vw4) (R w)
def pl24 : Plan := (.seq (.reg .seq) (.cond (.reg .seq) .leaf))
set_option maxRecDepth 100000 in
theorem T24 (vw1 : Option Addr) (w : World) (R : World → Prop) (h : S24 vw1 w R) : C24 vw1 w R := by
  have e : fnT Tryd.prog ⟨FF, MAY, (fun _ _ => False)⟩ pl24 Tryd.f24 [.pointer vw1] w [] (fun _ w => R w) = S24 vw1 w R := by kernel_rfl
  exact (fn_calls okF okM Tryd.func24 (by kernel_rfl) (by kernel_rfl) (e.mpr h)).mono fun _ _ ⟨_, he, hR⟩ => ⟨he, hR⟩

/-- slices.Clone[[]byte,byte] -/
def S44 (s1 : Slc) (w : World) (R : Slc → World → Prop) : Prop :=
  Br s1.p.isNone (R (⟨none, 0, 0⟩ : Slc) w) (Nw w (.cells #[] 5) fun vw2 =>
    Rn Tryd.prog (Builtin.append_ #[34, 34] 34 #[Slc.v ((⟨some ⟨w.heap.size, 0, none⟩, 0, 0⟩ : Slc)), Slc.v s1]) vw2 Slc.v fun (x3 : Slc) vw4 =>
    R x3 vw4)
def pl44 : Plan := (.seq (.reg .seq) (.seq (.seq (.reg .seq) (.cond (.seq (.reg .seq) .leaf) .leaf)) (.seq (.reg .seq) .leaf)))
set_option maxRecDepth 100000 in
theorem T44 (s1 : Slc) (w : World) (R : Slc → World → Prop) (h : S44 s1 w R) : C44 s1 w R := by
  have e : fnT Tryd.prog ⟨FF, MAY, (fun _ _ => False)⟩ pl44 Tryd.f44 [Slc.v s1] w [(.one .slc)] (fun s w => R s w) = S44 s1 w R := by kernel_rfl
  exact (fn_calls okF okM Tryd.func44 (by kernel_rfl) (by kernel_rfl) (e.mpr h)).mono fun _ _ ⟨s, he, hR⟩ => ⟨s, he, hR⟩

/-- (*foliant/bit.Writer).Text -/
def S25 (vw1 : Option Addr) (w : World) (R : ByteArray → World → Prop) : Prop :=
  Br vw1.isNone (R (⟨#[]⟩ : ByteArray) w) (Nn vw1 fun a2 =>
    Ld w (a2.add 2) Slc.v fun (x3 : Slc) =>
    C44 x3 w fun r4 vw5 =>
      Rn Tryd.prog (convert 34 9 (Slc.v r4)) vw5 Value.string fun (x6 : ByteArray) vw7 =>
      R x6 vw7)
def pl25 : Plan := (.seq (.reg .seq) (.seq (.seq (.reg .seq) (.cond (.seq (.reg .seq) .leaf) .leaf)) (.seq (.reg .seq) .leaf)))
set_option maxRecDepth 100000 in
theorem T25 (vw1 : Option Addr) (w : World) (R : ByteArray → World → Prop) (h : S25 vw1 w R) : C25 vw1 w R := by
  have e : fnT Tryd.prog ⟨FF, MAY, (fun _ _ => False)⟩ pl25 Tryd.f25 [.pointer vw1] w [(.one .str)] (fun s w => R s w) = S25 vw1 w R := by kernel_rfl
  exact (fn_calls okF okM Tryd.func25 (by kernel_rfl) (by kernel_rfl) (e.mpr h)).mono fun _ _ ⟨s, he, hR⟩ => ⟨s, he, hR⟩

/-- foliant/bit.From -/
def S28 (s1 : ByteArray) (w : World) (R : Option Addr → World → Prop) : Prop :=
  Nw w (.cells #[.int .i64 0, .int .i64 0, .string s1, .int .i64 0] 87) fun vw2 =>
  R (some (⟨w.heap.size, 0, none⟩ : Addr)) vw2
def pl28 : Plan := (.seq (.reg .seq) (.seq (.reg .seq) .leaf))
set_option maxRecDepth 100000 in
theorem T28 (s1 : ByteArray) (w : World) (R : Option Addr → World → Prop) (h : S28 s1 w R) : C28 s1 w R := by
  have e : fnT Tryd.prog ⟨FF, MAY, (fun _ _ => False)⟩ pl28 Tryd.f28 [.string s1] w [(.one .ptr)] (fun s w => R s w) = S28 s1 w R := by kernel_rfl
  exact (fn_calls okF okM Tryd.func28 (by kernel_rfl) (by kernel_rfl) (e.mpr h)).mono fun _ _ ⟨s, he, hR⟩ => ⟨s, he, hR⟩

/-- (*foliant/bit.Reader).At -/
def S30 (r1 : Option Addr) (w : World) (R : Int → World → Prop) : Prop :=
  Br r1.isNone (R 0 w) (Nn r1 fun a6 =>
    Ld w (a6.add 1) (Value.int .i64) fun (x7 : Int) =>
    Br (decide (x7 > 0)) (Nn r1 fun a8 =>
      Ld w (a8.add 3) (Value.int .i64) fun (x9 : Int) =>
      R (IntKind.i64.wrap (x9 + 1)) w) (Nn r1 fun a10 =>
      Ld w (a10.add 3) (Value.int .i64) fun (x11 : Int) =>
      R x11 w))
def pl30 : Plan := (.seq (.reg .seq) (.seq (.seq (.reg .seq) (.cond (.seq (.reg .seq) .leaf) .leaf)) (.seq (.seq (.reg .seq) (.cond (.seq (.reg .seq) .leaf) .leaf)) (.seq (.reg .seq) .leaf))))
set_option maxRecDepth 100000 in
theorem T30 (r1 : Option Addr) (w : World) (R : Int → World → Prop) (h : S30 r1 w R) : C30 r1 w R := by
  have e : fnT Tryd.prog ⟨FF, MAY, (fun _ _ => False)⟩ pl30 Tryd.f30 [.pointer r1] w [(.one (.int .i64))] (fun s w => R s w) = S30 r1 w R := by kernel_rfl
  exact (fn_calls okF okM Tryd.func30 (by kernel_rfl) (by kernel_rfl) (e.mpr h)).mono fun _ _ ⟨s, he, hR⟩ => ⟨s, he, hR⟩

/-- (*foliant/bit.Reader).Left -/
def S80 (r1 : Option Addr) (w : World) (R : Int → World → Prop) : Prop :=
  Br r1.isNone (R 0 w) (Nn r1 fun a2 =>
    Ld w.drew (a2.add 2) Value.string fun (x3 : ByteArray) =>
    Nn r1 fun a4 =>
    Ld w.drew (a4.add 3) (Value.int .i64) fun (x5 : Int) =>
    Nn r1 fun a6 =>
    Ld w.drew (a6.add 1) (Value.int .i64) fun (x7 : Int) =>
    Lt (IntKind.i64.wrap ((IntKind.i64.wrap (8 * (IntKind.i64.wrap ((((x3).size : Nat) : Int) - x5)))) - x7)) fun (x8 : Int) =>
    R x8 w.drew)
def pl80 : Plan := (.seq (.reg .seq) (.seq (.seq (.reg .seq) (.cond (.seq (.reg .seq) .leaf) .leaf)) (.seq (.reg .still) .leaf)))
set_option maxRecDepth 100000 in
theorem T80 (r1 : Option Addr) (w : World) (R : Int → World → Prop) (h : S80 r1 w R) : C80 r1 w R := by
  have e : fnT Tryd.prog ⟨FF, MAY, (fun _ _ => False)⟩ pl80 Tryd.f80 [.pointer r1] w [(.one (.int .i64))] (fun s w => R s w) = S80 r1 w R := by kernel_rfl
  exact (fn_calls okF okM Tryd.func80 (by kernel_rfl) (by kernel_rfl) (e.mpr h)).mono fun _ _ ⟨s, he, hR⟩ => ⟨s, he, hR⟩

/-- (*foliant/bit.Reader).one -/
def S81 (r1 : Option Addr) (way2 : Int) (w : World) (R : Int → World → Prop) : Prop :=
  ∃ vS3 : World → Prop, vS3 w.drew ∧ Nn r1 fun a4 =>
  LdS vS3 (a4.add 2) Value.string fun (x5 : ByteArray) =>
  Nn r1 fun a6 =>
  LdS vS3 (a6.add 3) (Value.int .i64) fun (x7 : Int) =>
  0 ≤ x7 ∧ x7 < ((x5).size : Nat) ∧ Nn r1 fun a8 =>
  C75 (some a8) way2 w.drew fun r9 vw10 =>
    vS3 vw10 ∧ 0 ≤ r9 ∧ Nn r1 fun a11 =>
    Ld vw10 (a11.add 1) (Value.int .i64) fun (x12 : Int) =>
    Nn r1 fun a13 =>
    St vw10 (a13.add 1) (.int .i64 (IntKind.i64.wrap (x12 + 1))) fun vw14 =>
    Nn r1 fun a15 =>
    Ld vw14 (a15.add 1) (Value.int .i64) fun (x16 : Int) =>
    Br (x16 == 8) (Nn r1 fun a17 =>
      St vw14 (a17.add 1) (.int .i64 0) fun vw18 =>
      Nn r1 fun a19 =>
      Ld vw18 (a19.add 3) (Value.int .i64) fun (x20 : Int) =>
      Nn r1 fun a21 =>
      St vw18 (a21.add 3) (.int .i64 (IntKind.i64.wrap (x20 + 1))) fun vw22 =>
      R (iand .i64 (Int.fdiv (IntKind.i64.wrap (bAt x5 x7)) (2 ^ (min (r9).toNat 64))) 1) vw22) (R (iand .i64 (Int.fdiv (IntKind.i64.wrap (bAt x5 x7)) (2 ^ (min (r9).toNat 64))) 1) vw14)
def pl81 : Plan := (.seq (.reg .seq) (.seq (.reg (.held [] (.take 0 (.take 1 (.take 2 (.take 3 (.take 4 (.take 5 (.take 6 (.take 7 (.take 8 (.take 9 (.take 10 (.take 11 (.take 12 (.take 13 (.eff 14 none (.take 15 (.take 16 (.take 17 .done)))))))))))))))))))) (.seq (.seq (.reg .seq) (.seq (.reg .seq) (.cond (.seq (.reg .seq) (.reg .seq)) .leaf))) (.seq (.reg .seq) .leaf))))
set_option maxRecDepth 100000 in
theorem T81 (r1 : Option Addr) (way2 : Int) (w : World) (R : Int → World → Prop) (h : S81 r1 way2 w R) : C81 r1 way2 w R := by
  have e : fnT Tryd.prog ⟨FF, MAY, (fun _ _ => False)⟩ pl81 Tryd.f81 [.pointer r1, .int .i64 way2] w [(.one (.int .i64))] (fun s w => R s w) = S81 r1 way2 w R := by kernel_rfl
  exact (fn_calls okF okM Tryd.func81 (by kernel_rfl) (by kernel_rfl) (e.mpr h)).mono fun _ _ ⟨s, he, hR⟩ => ⟨s, he, hR⟩

def S76L1 (r1 : Option Addr) (n2 : Int) (way3 : Int) (R : Int → Int → World → Prop) (I21 : (Int × Int) → World → Prop) (s19 : Int × Int) (vw20 : World) : Prop :=
  Br (decide (s19.2 < n2)) (C81 r1 way3 vw20 fun r22 vw23 =>
      Br (way3 == 1) (0 ≤ s19.2 ∧ I21 (ior .i64 s19.1 (IntKind.i64.wrap (r22 * 2 ^ (min (s19.2).toNat 64))), IntKind.i64.wrap (s19.2 + 1)) vw23) (I21 (ior .i64 (IntKind.i64.wrap (s19.1 * 2 ^ 1)) r22, IntKind.i64.wrap (s19.2 + 1)) vw23)) (Br (decide (n2 > 0)) (Nn r1 fun a24 =>
      St vw20 a24 (.int .i64 way3) fun vw25 =>
      R s19.1 0 vw25) (R s19.1 0 vw20))
/-- (*foliant/bit.Reader).take -/
def S76 (r1 : Option Addr) (n2 : Int) (way3 : Int) (w : World) (R : Int → Int → World → Prop) : Prop :=
  Br r1.isNone (R 0 1 w) (Br (decide (n2 < 0)) (R 0 1 w) (Br (decide (n2 > 24)) (R 0 1 w) (Nn r1 fun a9 =>
        C57 (some a9) way3 w fun r10 vw11 =>
          Br r10 (R 0 1 vw11) (C80 r1 vw11 fun r12 vw13 =>
              Br (decide (n2 > r12)) (R 0 4 vw13) (Lp (σ := Int × Int) (S76L1 r1 n2 way3 R) (0, 0) vw13)))))
def pl76 : Plan := (.seq (.reg .seq) (.seq (.block (.seq (.reg .seq) (.cond (.seq (.reg .seq) .leaf) (.seq (.reg .seq) (.cond (.seq (.reg .seq) .leaf) .leaf))))) (.seq (.reg .seq) (.seq (.seq (.reg .seq) (.block (.loop [(8, (.one (.int .i64))), (35, (.one (.int .i64)))] [0, 1, 2, 34] (.seq (.reg .seq) (.seq (.cond .leaf .leaf) (.seq (.block (.seq (.reg .seq) (.seq (.reg .seq) (.seq (.reg .seq) (.cond (.reg .seq) (.reg .seq)))))) (.reg .seq))))))) (.seq (.seq (.reg .seq) (.cond (.reg .seq) .leaf)) (.seq (.reg .seq) .leaf))))))
set_option maxRecDepth 100000 in
theorem T76 (r1 : Option Addr) (n2 : Int) (way3 : Int) (w : World) (R : Int → Int → World → Prop) (h : S76 r1 n2 way3 w R) : C76 r1 n2 way3 w R := by
  have e : fnT Tryd.prog ⟨FF, MAY, (fun _ _ => False)⟩ pl76 Tryd.f76 [.pointer r1, .int .i64 n2, .int .i64 way3] w [(.one (.int .i64)), (.one (.int .i64))] (fun s w => R s.1 s.2 w) = S76 r1 n2 way3 w R := by kernel_rfl
  exact (fn_calls okF okM Tryd.func76 (by kernel_rfl) (by kernel_rfl) (e.mpr h)).mono fun _ _ ⟨s, he, hR⟩ => ⟨s.1, s.2, he, hR⟩

/-- (*foliant/bit.Reader).Low -/
def S60 (r1 : Option Addr) (n2 : Int) (w : World) (R : Int → Int → World → Prop) : Prop :=
  C76 r1 n2 1 w fun r3 r4 vw5 =>
    R r3 r4 vw5
def pl60 : Plan := (.seq (.reg .seq) (.seq (.reg .seq) .leaf))
set_option maxRecDepth 100000 in
theorem T60 (r1 : Option Addr) (n2 : Int) (w : World) (R : Int → Int → World → Prop) (h : S60 r1 n2 w R) : C60 r1 n2 w R := by
  have e : fnT Tryd.prog ⟨FF, MAY, (fun _ _ => False)⟩ pl60 Tryd.f60 [.pointer r1, .int .i64 n2] w [(.one (.int .i64)), (.one (.int .i64))] (fun s w => R s.1 s.2 w) = S60 r1 n2 w R := by kernel_rfl
  exact (fn_calls okF okM Tryd.func60 (by kernel_rfl) (by kernel_rfl) (e.mpr h)).mono fun _ _ ⟨s, he, hR⟩ => ⟨s.1, s.2, he, hR⟩

/-- (*foliant/bit.Reader).Align -/
def S61 (r1 : Option Addr) (w : World) (R : World → Prop) : Prop :=
  Br r1.isNone (R w) (Nn r1 fun a2 =>
    Ld w (a2.add 1) (Value.int .i64) fun (x3 : Int) =>
    Br (decide (x3 > 0)) (Nn r1 fun a4 =>
      Ld w (a4.add 3) (Value.int .i64) fun (x5 : Int) =>
      Nn r1 fun a6 =>
      St w (a6.add 3) (.int .i64 (IntKind.i64.wrap (x5 + 1))) fun vw7 =>
      Nn r1 fun a8 =>
      St vw7 a8 (.int .i64 0) fun vw9 =>
      St vw9 (a8.add 1) (.int .i64 0) fun vw10 =>
      R vw10) (Nn r1 fun a11 =>
      St w a11 (.int .i64 0) fun vw12 =>
      St vw12 (a11.add 1) (.int .i64 0) fun vw13 =>
      R vw13))
def pl61 : Plan := (.seq (.seq (.reg .seq) (.cond .leaf .leaf)) (.seq (.seq (.reg .seq) (.cond (.reg .seq) .leaf)) (.reg .seq)))
set_option maxRecDepth 100000 in
theorem T61 (r1 : Option Addr) (w : World) (R : World → Prop) (h : S61 r1 w R) : C61 r1 w R := by
  have e : fnT Tryd.prog ⟨FF, MAY, (fun _ _ => False)⟩ pl61 Tryd.f61 [.pointer r1] w [] (fun _ w => R w) = S61 r1 w R := by kernel_rfl
  exact (fn_calls okF okM Tryd.func61 (by kernel_rfl) (by kernel_rfl) (e.mpr h)).mono fun _ _ ⟨_, he, hR⟩ => ⟨he, hR⟩

/-- (*foliant/bit.Reader).Raw -/
def S64 (r1 : Option Addr) (n2 : Int) (w : World) (R : ByteArray → Int → World → Prop) : Prop :=
  Br r1.isNone (R (⟨#[]⟩ : ByteArray) 1 w) (Br (decide (n2 < 0)) (R (⟨#[]⟩ : ByteArray) 1 w) (Nn r1 fun a9 =>
      Ld w (a9.add 1) (Value.int .i64) fun (x10 : Int) =>
      Br (decide (x10 > 0)) (R (⟨#[]⟩ : ByteArray) 1 w) (Nn r1 fun a11 =>
        Ld w.drew (a11.add 2) Value.string fun (x12 : ByteArray) =>
        Nn r1 fun a13 =>
        Ld w.drew (a13.add 3) (Value.int .i64) fun (x14 : Int) =>
        Br (decide (n2 > (IntKind.i64.wrap ((((x12).size : Nat) : Int) - x14)))) (R (⟨#[]⟩ : ByteArray) 4 w.drew) (Nn r1 fun a15 =>
          Ld w.drew (a15.add 3) (Value.int .i64) fun (x16 : Int) =>
          Nn r1 fun a17 =>
          St w.drew (a17.add 3) (.int .i64 (IntKind.i64.wrap (x16 + n2))) fun vw18 =>
          Nn r1 fun a19 =>
          Ld vw18.drew (a19.add 2) Value.string fun (x20 : ByteArray) =>
          Nn r1 fun a21 =>
          Ld vw18.drew (a21.add 3) (Value.int .i64) fun (x22 : Int) =>
          Nn r1 fun a23 =>
          Ld vw18.drew (a23.add 3) (Value.int .i64) fun (x24 : Int) =>
          0 ≤ x24 ∧ x24 ≤ (((x20).size : Nat) : Int) ∧ 0 ≤ (IntKind.i64.wrap (x22 - n2)) ∧ (IntKind.i64.wrap (x22 - n2)) ≤ (((x24).toNat : Nat) : Int) ∧ R (x20.extract ((IntKind.i64.wrap (x22 - n2)).toNat) ((x24).toNat)) 0 vw18.drew))))
def pl64 : Plan := (.seq (.reg .seq) (.seq (.block (.seq (.reg .seq) (.cond (.seq (.reg .seq) .leaf) (.seq (.reg .still) (.cond (.seq (.reg .seq) .leaf) .leaf))))) (.seq (.reg .seq) (.seq (.reg .still) .leaf))))
set_option maxRecDepth 100000 in
theorem T64 (r1 : Option Addr) (n2 : Int) (w : World) (R : ByteArray → Int → World → Prop) (h : S64 r1 n2 w R) : C64 r1 n2 w R := by
  have e : fnT Tryd.prog ⟨FF, MAY, (fun _ _ => False)⟩ pl64 Tryd.f64 [.pointer r1, .int .i64 n2] w [(.one .str), (.one (.int .i64))] (fun s w => R s.1 s.2 w) = S64 r1 n2 w R := by kernel_rfl
  exact (fn_calls okF okM Tryd.func64 (by kernel_rfl) (by kernel_rfl) (e.mpr h)).mono fun _ _ ⟨s, he, hR⟩ => ⟨s.1, s.2, he, hR⟩

end Go.Proofs.YtapgacggllbhiaaDoor
