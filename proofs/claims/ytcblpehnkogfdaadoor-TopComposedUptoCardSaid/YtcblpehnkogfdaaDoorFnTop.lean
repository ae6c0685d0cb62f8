/- The formulas of 2 functions of the program, written by program (gen.py); the kernel checks each. No condition. -/
import Derived.Test.YtcblpehnkogfdaaDoorFn
import Derived.Test.YtcblpehnkogfdaaDoorFnFix
import Derived.Test.YtcblpehnkogfdaaDoorFnMat
import Derived.Test.YtcblpehnkogfdaaDoorFnFont
import Derived.Test.YtcblpehnkogfdaaDoorFnShow
namespace Go.Proofs.YtcblpehnkogfdaaDoor
open Sh
set_option linter.unusedVariables false
set_option maxRecDepth 100000

def C4 (m1 : Int × Int × Int × Int × Int × Int) (w : World) (R : (TyA29) → World → Prop) : Prop :=
  Calls Tryd.prog 4 #[.agg #[.int .i64 (m1.1), .int .i64 (m1.2.1), .int .i64 (m1.2.2.1), .int .i64 (m1.2.2.2.1), .int .i64 (m1.2.2.2.2.1), .int .i64 (m1.2.2.2.2.2)]] w fun e w' => ∃ r0 : TyA29, e = .returned (.agg (Sig.cells LiA29 r0).toArray) ∧ R r0 w'
theorem C4.mono {m1 : Int × Int × Int × Int × Int × Int} {w : World} {R R' : (TyA29) → World → Prop} (h : C4 m1 w R) (hr : ∀ r0 w', R r0 w' → R' r0 w') : C4 m1 w R' :=
  Calls.mono h fun _ _ ⟨r0, he, hR⟩ => ⟨r0, he, hr _ _ hR⟩
def C3 (g1 : TyA29) (m2 : Int × Int × Int × Int × Int × Int) (f3 : TyA33) (s4 : ByteArray) (cut5 : Int) (w : World) (R : Bool → World → Prop) : Prop :=
  Calls Tryd.prog 3 #[.agg (Sig.cells LiA29 g1).toArray, .agg #[.int .i64 (m2.1), .int .i64 (m2.2.1), .int .i64 (m2.2.2.1), .int .i64 (m2.2.2.2.1), .int .i64 (m2.2.2.2.2.1), .int .i64 (m2.2.2.2.2.2)], .agg (Sig.cells LiA33 f3).toArray, .string s4, .int .i64 cut5] w fun e w' => ∃ r0 : Bool, e = .returned (.bool r0) ∧ R r0 w'
theorem C3.mono {g1 : TyA29} {m2 : Int × Int × Int × Int × Int × Int} {f3 : TyA33} {s4 : ByteArray} {cut5 : Int} {w : World} {R R' : Bool → World → Prop} (h : C3 g1 m2 f3 s4 cut5 w R) (hr : ∀ r0 w', R r0 w' → R' r0 w') : C3 g1 m2 f3 s4 cut5 w R' :=
  Calls.mono h fun _ _ ⟨r0, he, hR⟩ => ⟨r0, he, hr _ _ hR⟩

/-- foliant/state.First -/
def S4 (m1 : Int × Int × Int × Int × Int × Int) (w : World) (R : (TyA29) → World → Prop) : Prop :=
  Nw w (.cells #[.int .i64 (m1.1), .int .i64 (m1.2.1), .int .i64 (m1.2.2.1), .int .i64 (m1.2.2.2.1), .int .i64 (m1.2.2.2.2.1), .int .i64 (m1.2.2.2.2.2)] 23) fun vw2 =>
  Nw vw2 (.cells #[.int .i64 0, .int .i64 0, .int .i64 0, .int .i64 0, .int .i64 0, .int .i64 0, .int .i64 0, .int .i64 0, .int .i64 0, .int .i64 0, Slc.v ((⟨none, 0, 0⟩ : Slc)), .int .i64 0, .int .i64 0, .int .i64 0, .int .i64 0, .int .i64 0, .int .i64 0, .int .i64 0, .int .i64 0, .int .i64 0, .int .i64 0, .int .i64 0, .int .i64 0, .int .i64 0, .int .i64 0, .int .i64 0, .int .i64 0, .int .i64 0, .string ((⟨#[]⟩ : ByteArray)), .int .i64 0] 30) fun vw3 =>
  Ld vw3 (⟨w.heap.size, 0, none⟩ : Addr) (Value.int .i64) fun (x4 : Int) =>
  Ld vw3 ((⟨w.heap.size, 0, none⟩ : Addr).add 1) (Value.int .i64) fun (x5 : Int) =>
  Ld vw3 ((⟨w.heap.size, 0, none⟩ : Addr).add 2) (Value.int .i64) fun (x6 : Int) =>
  Ld vw3 ((⟨w.heap.size, 0, none⟩ : Addr).add 3) (Value.int .i64) fun (x7 : Int) =>
  Ld vw3 ((⟨w.heap.size, 0, none⟩ : Addr).add 4) (Value.int .i64) fun (x8 : Int) =>
  Ld vw3 ((⟨w.heap.size, 0, none⟩ : Addr).add 5) (Value.int .i64) fun (x9 : Int) =>
  StT (⟨vw2.heap.size, 0, none⟩ : Addr) 0 LiA29 ((x4, x5, x6, x7, x8, x9, 10000, 0, 0, 100000, (⟨none, 0, 0⟩ : Slc), 0, 0, 0, 0, 0, 0, 0, 0, 0, 0, 0, 0, 0, 1000000, 0, 0, 0, (⟨#[]⟩ : ByteArray), 0) : TyA29) vw3 fun vw10 =>
  LdT vw10 (⟨vw2.heap.size, 0, none⟩ : Addr) 0 LiA29 fun (x11 : TyA29) =>
  R x11 vw10
def pl4 : Plan := (.seq (.reg .seq) (.seq (.reg .seq) .leaf))
set_option maxRecDepth 100000 in
theorem T4 (m1 : Int × Int × Int × Int × Int × Int) (w : World) (R : (TyA29) → World → Prop) (h : S4 m1 w R) : C4 (m1.1, m1.2.1, m1.2.2.1, m1.2.2.2.1, m1.2.2.2.2.1, m1.2.2.2.2.2) w R := by
  have e : fnT Tryd.prog ⟨FF, MAY, (fun _ _ => False)⟩ pl4 Tryd.f4 [.agg #[.int .i64 (m1.1), .int .i64 (m1.2.1), .int .i64 (m1.2.2.1), .int .i64 (m1.2.2.2.1), .int .i64 (m1.2.2.2.2.1), .int .i64 (m1.2.2.2.2.2)]] w [(.agg [(.int .i64), (.int .i64), (.int .i64), (.int .i64), (.int .i64), (.int .i64), (.int .i64), (.int .i64), (.int .i64), (.int .i64), .slc, (.int .i64), (.int .i64), (.int .i64), (.int .i64), (.int .i64), (.int .i64), (.int .i64), (.int .i64), (.int .i64), (.int .i64), (.int .i64), (.int .i64), (.int .i64), (.int .i64), (.int .i64), (.int .i64), (.int .i64), .str, (.int .i64)])] (fun s w => R s w) = S4 m1 w R := by kernel_rfl
  exact (fn_calls okF okM Tryd.func4 (by kernel_rfl) (by kernel_rfl) (e.mpr h)).mono fun _ _ ⟨s, he, hR⟩ => ⟨s, he, hR⟩

def S3J1 (w : World) (vw7 : World) (r95 : Slc) (vw109 : World) (s281 : Int) (I283 : Int → World → Prop) (x285 : Int) (r299 : Int) (r316 : Int) (vw317 : World) (r324 : Int) (R : Bool → World → Prop) (s326 : Addr × Int) (vw327 : World) : Prop :=
  ∃ vS328 : World → Prop, vS328 vw327.drew ∧ Br (r299 != 0) (R false vw327.drew) (Br (r316 != 0) (R false vw327.drew) (Br (r324 != 0) (R false vw327.drew) (Br (s326.2 != 0) (R false vw327.drew) (0 ≤ s281 ∧ s281 < (r95.len : Nat) ∧ Nn r95.p fun a329 =>
          LdS vS328 ((a329.add ((s281).toNat * 9)).add 2) (Value.int .i64) fun (x330 : Int) =>
          LdS vS328 (((a329.add ((s281).toNat * 9)).add 2).add 1) (Value.int .i64) fun (x331 : Int) =>
          LdS vS328 (⟨vw317.heap.size, 0, none⟩ : Addr) (Value.int .i64) fun (x332 : Int) =>
          LdS vS328 ((⟨vw317.heap.size, 0, none⟩ : Addr).add 1) (Value.int .i64) fun (x333 : Int) =>
          Br (!((x330 == x332) && ((x331 == x333) && true))) (R false vw327.drew) (0 ≤ s281 ∧ s281 < (r95.len : Nat) ∧ Nn r95.p fun a334 =>
            LdS vS328 ((a334.add ((s281).toNat * 9)).add 1) Value.string fun (x335 : ByteArray) =>
            LdST vS328 (⟨vw7.heap.size, 0, none⟩ : Addr) 0 LiA33 fun (x336 : TyA33) =>
            C12 x336 x285 vw327.drew fun r337 vw338 =>
              vS328 vw338 ∧ Br (!(x335.toList == r337.toList)) (R false vw338) (0 ≤ s281 ∧ s281 < (r95.len : Nat) ∧ Nn r95.p fun a339 =>
                LdS vS328 (a339.add ((s281).toNat * 9)) (Value.int .i64) fun (x340 : Int) =>
                Br (x340 != x285) (R false vw338) (0 ≤ s281 ∧ s281 < (r95.len : Nat) ∧ Nn r95.p fun a341 =>
                  LdS vS328 ((a341.add ((s281).toNat * 9)).add 7) Value.string fun (x342 : ByteArray) =>
                  LdS vS328 (((⟨w.heap.size, 0, none⟩ : Addr).add 22).add 6) Value.string fun (x343 : ByteArray) =>
                  Br (!(x342.toList == x343.toList)) (R false vw338) (Ld vw338 s326.1 (Value.int .i64) fun (x344 : Int) =>
                    Ld vw338 (s326.1.add 1) (Value.int .i64) fun (x345 : Int) =>
                    Ld vw338 (s326.1.add 2) (Value.int .i64) fun (x346 : Int) =>
                    Ld vw338 (s326.1.add 3) (Value.int .i64) fun (x347 : Int) =>
                    Ld vw338 (s326.1.add 4) (Value.int .i64) fun (x348 : Int) =>
                    Ld vw338 (s326.1.add 5) (Value.int .i64) fun (x349 : Int) =>
                    St vw338 (⟨vw109.heap.size, 0, none⟩ : Addr) (.int .i64 x344) fun vw350 =>
                    St vw350 ((⟨vw109.heap.size, 0, none⟩ : Addr).add 1) (.int .i64 x345) fun vw351 =>
                    St vw351 ((⟨vw109.heap.size, 0, none⟩ : Addr).add 2) (.int .i64 x346) fun vw352 =>
                    St vw352 ((⟨vw109.heap.size, 0, none⟩ : Addr).add 3) (.int .i64 x347) fun vw353 =>
                    St vw353 ((⟨vw109.heap.size, 0, none⟩ : Addr).add 4) (.int .i64 x348) fun vw354 =>
                    St vw354 ((⟨vw109.heap.size, 0, none⟩ : Addr).add 5) (.int .i64 x349) fun vw355 =>
                    I283 (IntKind.i64.wrap (s281 + 1)) vw355))))))))
def S3L1 (r95 : Slc) (x524 : Slc) (R : Bool → World → Prop) (I528 : Int → World → Prop) (s526 : Int) (vw527 : World) : Prop :=
  Br (decide (s526 < ((x524.len : Nat) : Int))) (0 ≤ s526 ∧ s526 < (x524.len : Nat) ∧ Nn x524.p fun a529 =>
    LdT vw527 (a529.add ((s526).toNat * 9)) 0 LiA44 fun (x530 : TyA44) =>
    Nw vw527 (.cells #[.int .i64 0, .string ((⟨#[]⟩ : ByteArray)), .int .i64 0, .int .i64 0, .int .i64 0, .int .i64 0, .int .i64 0, .string ((⟨#[]⟩ : ByteArray)), .int .i64 0] 45) fun vw531 =>
    StT (⟨vw527.heap.size, 0, none⟩ : Addr) 0 LiA44 x530 vw531 fun vw532 =>
    LdT vw532.drew (⟨vw527.heap.size, 0, none⟩ : Addr) 0 LiA44 fun (x533 : TyA44) =>
    0 ≤ s526 ∧ s526 < (r95.len : Nat) ∧ Nn r95.p fun a534 =>
    LdT vw532.drew (a534.add ((s526).toNat * 9)) 0 LiA44 fun (x535 : TyA44) =>
    Lt (!((x533.1 == x535.1) && ((x533.2.1.toList == x535.2.1.toList) && (((x533.2.2.1 == x535.2.2.1) && ((x533.2.2.2.1 == x535.2.2.2.1) && true)) && (((x533.2.2.2.2.1 == x535.2.2.2.2.1) && ((x533.2.2.2.2.2.1 == x535.2.2.2.2.2.1) && true)) && ((x533.2.2.2.2.2.2.1 == x535.2.2.2.2.2.2.1) && ((x533.2.2.2.2.2.2.2.1.toList == x535.2.2.2.2.2.2.2.1.toList) && ((x533.2.2.2.2.2.2.2.2 == x535.2.2.2.2.2.2.2.2) && true)))))))) fun (x536 : Bool) =>
    Br x536 (R false vw532.drew) (I528 (IntKind.i64.wrap (s526 + 1)) vw532.drew)) (R true vw527)
def S3J2 (r95 : Slc) (vw98 : World) (s458 : Slc × Addr × Int) (R : Bool → World → Prop) (s491 : Slc × Addr × Int) (vw492 : World) : Prop :=
  Br (s458.2.2 != 0) (R false vw492) (Br (s491.2.2 != 0) (R false vw492) (Ld vw492 s491.2.1 (Value.int .i64) fun (x507 : Int) =>
      Ld vw492 (s491.2.1.add 1) (Value.int .i64) fun (x508 : Int) =>
      Ld vw492 (s491.2.1.add 2) (Value.int .i64) fun (x509 : Int) =>
      Ld vw492 (s491.2.1.add 3) (Value.int .i64) fun (x510 : Int) =>
      Ld vw492 (s491.2.1.add 4) (Value.int .i64) fun (x511 : Int) =>
      Ld vw492 (s491.2.1.add 5) (Value.int .i64) fun (x512 : Int) =>
      Ld vw492 (⟨vw98.heap.size, 0, none⟩ : Addr) (Value.int .i64) fun (x513 : Int) =>
      Ld vw492 ((⟨vw98.heap.size, 0, none⟩ : Addr).add 1) (Value.int .i64) fun (x514 : Int) =>
      Ld vw492 ((⟨vw98.heap.size, 0, none⟩ : Addr).add 2) (Value.int .i64) fun (x515 : Int) =>
      Ld vw492 ((⟨vw98.heap.size, 0, none⟩ : Addr).add 3) (Value.int .i64) fun (x516 : Int) =>
      Ld vw492 ((⟨vw98.heap.size, 0, none⟩ : Addr).add 4) (Value.int .i64) fun (x517 : Int) =>
      Ld vw492 ((⟨vw98.heap.size, 0, none⟩ : Addr).add 5) (Value.int .i64) fun (x518 : Int) =>
      Lt (!((x507 == x513) && ((x508 == x514) && ((x509 == x515) && ((x510 == x516) && ((x511 == x517) && ((x512 == x518) && true))))))) fun (x519 : Bool) =>
      Br x519 (R false vw492) (Lt ((IntKind.i64.wrap (((s458.1.len : Nat) : Int) + ((s491.1.len : Nat) : Int))) != ((r95.len : Nat) : Int)) fun (x520 : Bool) =>
        Br x520 (R false vw492) (Nw vw492 (.cells #[] 45) fun vw521 =>
          Rn Tryd.prog (Builtin.append_ #[37, 37] 37 #[Slc.v ((⟨some ⟨vw492.heap.size, 0, none⟩, 0, 0⟩ : Slc)), Slc.v s458.1]) vw521 Slc.v fun (x522 : Slc) vw523 =>
          Rn Tryd.prog (Builtin.append_ #[37, 37] 37 #[Slc.v x522, Slc.v s491.1]) vw523 Slc.v fun (x524 : Slc) vw525 =>
          Lp (σ := Int) (S3L1 r95 x524 R) 0 vw525))))
def S3J3 (w : World) (s4 : ByteArray) (cut5 : Int) (vw7 : World) (r95 : Slc) (vw98 : World) (R : Bool → World → Prop) (s458 : Slc × Addr × Int) (vw459 : World) : Prop :=
  Join (S3J2 r95 vw98 s458 R) fun (vJ537 : (Slc × Addr × Int) → World → Prop) =>
    ∃ vS538 : World → Prop, vS538 vw459.drew ∧ LdST vS538 (⟨w.heap.size, 0, none⟩ : Addr) 0 LiA29 fun (x539 : TyA29) =>
    LdS vS538 s458.2.1 (Value.int .i64) fun (x540 : Int) =>
    LdS vS538 (s458.2.1.add 1) (Value.int .i64) fun (x541 : Int) =>
    LdS vS538 (s458.2.1.add 2) (Value.int .i64) fun (x542 : Int) =>
    LdS vS538 (s458.2.1.add 3) (Value.int .i64) fun (x543 : Int) =>
    LdS vS538 (s458.2.1.add 4) (Value.int .i64) fun (x544 : Int) =>
    LdS vS538 (s458.2.1.add 5) (Value.int .i64) fun (x545 : Int) =>
    LdST vS538 (⟨vw7.heap.size, 0, none⟩ : Addr) 0 LiA33 fun (x546 : TyA33) =>
    0 ≤ cut5 ∧ cut5 ≤ (((s4).size : Nat) : Int) ∧ (C6 x539 (x540, x541, x542, x543, x544, x545) x546 (s4.extract ((cut5).toNat) ((s4).size)) vw459.drew fun r547 r548 r549 vw550 =>
        Nw vw550 (.cells #[.int .i64 0, .int .i64 0, .int .i64 0, .int .i64 0, .int .i64 0, .int .i64 0] 23) fun vw551 =>
        St vw551 (⟨vw550.heap.size, 0, none⟩ : Addr) (.int .i64 (r548.1)) fun vw552 =>
        St vw552 ((⟨vw550.heap.size, 0, none⟩ : Addr).add 1) (.int .i64 (r548.2.1)) fun vw553 =>
        St vw553 ((⟨vw550.heap.size, 0, none⟩ : Addr).add 2) (.int .i64 (r548.2.2.1)) fun vw554 =>
        St vw554 ((⟨vw550.heap.size, 0, none⟩ : Addr).add 3) (.int .i64 (r548.2.2.2.1)) fun vw555 =>
        St vw555 ((⟨vw550.heap.size, 0, none⟩ : Addr).add 4) (.int .i64 (r548.2.2.2.2.1)) fun vw556 =>
        St vw556 ((⟨vw550.heap.size, 0, none⟩ : Addr).add 5) (.int .i64 (r548.2.2.2.2.2)) fun vw557 =>
        vJ537 (r547, (⟨vw550.heap.size, 0, none⟩ : Addr), r549) vw557) ∧
    (Nw vw459.drew (.cells #[.int .i64 0, .int .i64 0, .int .i64 0, .int .i64 0, .int .i64 0, .int .i64 0] 23) fun vw558 =>
      vS538 vw558 ∧ C6 x539 (x540, x541, x542, x543, x544, x545) x546 (s4.extract ((cut5).toNat) ((s4).size)) vw558 fun r559 r560 r561 vw562 =>
        St vw562 (⟨vw459.drew.heap.size, 0, none⟩ : Addr) (.int .i64 (r560.1)) fun vw563 =>
        St vw563 ((⟨vw459.drew.heap.size, 0, none⟩ : Addr).add 1) (.int .i64 (r560.2.1)) fun vw564 =>
        St vw564 ((⟨vw459.drew.heap.size, 0, none⟩ : Addr).add 2) (.int .i64 (r560.2.2.1)) fun vw565 =>
        St vw565 ((⟨vw459.drew.heap.size, 0, none⟩ : Addr).add 3) (.int .i64 (r560.2.2.2.1)) fun vw566 =>
        St vw566 ((⟨vw459.drew.heap.size, 0, none⟩ : Addr).add 4) (.int .i64 (r560.2.2.2.2.1)) fun vw567 =>
        St vw567 ((⟨vw459.drew.heap.size, 0, none⟩ : Addr).add 5) (.int .i64 (r560.2.2.2.2.2)) fun vw568 =>
        vJ537 (r559, (⟨vw459.drew.heap.size, 0, none⟩ : Addr), r561) vw568)
def S3J4 (w : World) (s4 : ByteArray) (cut5 : Int) (vw6 : World) (vw7 : World) (r95 : Slc) (vw98 : World) (R : Bool → World → Prop) (s425 : Unit) (vw426 : World) : Prop :=
  Join (S3J3 w s4 cut5 vw7 r95 vw98 R) fun (vJ569 : (Slc × Addr × Int) → World → Prop) =>
    ∃ vS570 : World → Prop, vS570 vw426.drew ∧ LdST vS570 (⟨w.heap.size, 0, none⟩ : Addr) 0 LiA29 fun (x571 : TyA29) =>
    LdS vS570 (⟨vw6.heap.size, 0, none⟩ : Addr) (Value.int .i64) fun (x572 : Int) =>
    LdS vS570 ((⟨vw6.heap.size, 0, none⟩ : Addr).add 1) (Value.int .i64) fun (x573 : Int) =>
    LdS vS570 ((⟨vw6.heap.size, 0, none⟩ : Addr).add 2) (Value.int .i64) fun (x574 : Int) =>
    LdS vS570 ((⟨vw6.heap.size, 0, none⟩ : Addr).add 3) (Value.int .i64) fun (x575 : Int) =>
    LdS vS570 ((⟨vw6.heap.size, 0, none⟩ : Addr).add 4) (Value.int .i64) fun (x576 : Int) =>
    LdS vS570 ((⟨vw6.heap.size, 0, none⟩ : Addr).add 5) (Value.int .i64) fun (x577 : Int) =>
    LdST vS570 (⟨vw7.heap.size, 0, none⟩ : Addr) 0 LiA33 fun (x578 : TyA33) =>
    0 ≤ cut5 ∧ cut5 ≤ (((s4).size : Nat) : Int) ∧ (C6 x571 (x572, x573, x574, x575, x576, x577) x578 (s4.extract 0 ((cut5).toNat)) vw426.drew fun r579 r580 r581 vw582 =>
        Nw vw582 (.cells #[.int .i64 0, .int .i64 0, .int .i64 0, .int .i64 0, .int .i64 0, .int .i64 0] 23) fun vw583 =>
        St vw583 (⟨vw582.heap.size, 0, none⟩ : Addr) (.int .i64 (r580.1)) fun vw584 =>
        St vw584 ((⟨vw582.heap.size, 0, none⟩ : Addr).add 1) (.int .i64 (r580.2.1)) fun vw585 =>
        St vw585 ((⟨vw582.heap.size, 0, none⟩ : Addr).add 2) (.int .i64 (r580.2.2.1)) fun vw586 =>
        St vw586 ((⟨vw582.heap.size, 0, none⟩ : Addr).add 3) (.int .i64 (r580.2.2.2.1)) fun vw587 =>
        St vw587 ((⟨vw582.heap.size, 0, none⟩ : Addr).add 4) (.int .i64 (r580.2.2.2.2.1)) fun vw588 =>
        St vw588 ((⟨vw582.heap.size, 0, none⟩ : Addr).add 5) (.int .i64 (r580.2.2.2.2.2)) fun vw589 =>
        vJ569 (r579, (⟨vw582.heap.size, 0, none⟩ : Addr), r581) vw589) ∧
    (Nw vw426.drew (.cells #[.int .i64 0, .int .i64 0, .int .i64 0, .int .i64 0, .int .i64 0, .int .i64 0] 23) fun vw590 =>
      vS570 vw590 ∧ C6 x571 (x572, x573, x574, x575, x576, x577) x578 (s4.extract 0 ((cut5).toNat)) vw590 fun r591 r592 r593 vw594 =>
        St vw594 (⟨vw426.drew.heap.size, 0, none⟩ : Addr) (.int .i64 (r592.1)) fun vw595 =>
        St vw595 ((⟨vw426.drew.heap.size, 0, none⟩ : Addr).add 1) (.int .i64 (r592.2.1)) fun vw596 =>
        St vw596 ((⟨vw426.drew.heap.size, 0, none⟩ : Addr).add 2) (.int .i64 (r592.2.2.1)) fun vw597 =>
        St vw597 ((⟨vw426.drew.heap.size, 0, none⟩ : Addr).add 3) (.int .i64 (r592.2.2.2.1)) fun vw598 =>
        St vw598 ((⟨vw426.drew.heap.size, 0, none⟩ : Addr).add 4) (.int .i64 (r592.2.2.2.2.1)) fun vw599 =>
        St vw599 ((⟨vw426.drew.heap.size, 0, none⟩ : Addr).add 5) (.int .i64 (r592.2.2.2.2.2)) fun vw600 =>
        vJ569 (r591, (⟨vw426.drew.heap.size, 0, none⟩ : Addr), r593) vw600)
def S3L2 (w : World) (s4 : ByteArray) (cut5 : Int) (vw6 : World) (vw7 : World) (r95 : Slc) (vw98 : World) (r107 : Slc) (vw109 : World) (R : Bool → World → Prop) (I283 : Int → World → Prop) (s281 : Int) (vw282 : World) : Prop :=
  Br (decide (s281 < ((r107.len : Nat) : Int))) (0 ≤ s281 ∧ s281 < (r107.len : Nat) ∧ Nn r107.p fun a284 =>
    Ld vw282 (a284.add ((s281).toNat * 1)) (Value.int .i64) fun (x285 : Int) =>
    Ld vw282 (⟨vw109.heap.size, 0, none⟩ : Addr) (Value.int .i64) fun (x286 : Int) =>
    Ld vw282 ((⟨vw109.heap.size, 0, none⟩ : Addr).add 1) (Value.int .i64) fun (x287 : Int) =>
    Ld vw282 ((⟨vw109.heap.size, 0, none⟩ : Addr).add 2) (Value.int .i64) fun (x288 : Int) =>
    Ld vw282 ((⟨vw109.heap.size, 0, none⟩ : Addr).add 3) (Value.int .i64) fun (x289 : Int) =>
    Ld vw282 ((⟨vw109.heap.size, 0, none⟩ : Addr).add 4) (Value.int .i64) fun (x290 : Int) =>
    Ld vw282 ((⟨vw109.heap.size, 0, none⟩ : Addr).add 5) (Value.int .i64) fun (x291 : Int) =>
    Ld vw282 (⟨w.heap.size, 0, none⟩ : Addr) (Value.int .i64) fun (x292 : Int) =>
    Ld vw282 ((⟨w.heap.size, 0, none⟩ : Addr).add 1) (Value.int .i64) fun (x293 : Int) =>
    Ld vw282 ((⟨w.heap.size, 0, none⟩ : Addr).add 2) (Value.int .i64) fun (x294 : Int) =>
    Ld vw282 ((⟨w.heap.size, 0, none⟩ : Addr).add 3) (Value.int .i64) fun (x295 : Int) =>
    Ld vw282 ((⟨w.heap.size, 0, none⟩ : Addr).add 4) (Value.int .i64) fun (x296 : Int) =>
    Ld vw282 ((⟨w.heap.size, 0, none⟩ : Addr).add 5) (Value.int .i64) fun (x297 : Int) =>
    C9 (x286, x287, x288, x289, x290, x291) (x292, x293, x294, x295, x296, x297) vw282 fun r298 r299 vw300 =>
      Nw vw300 (.cells #[.int .i64 0, .int .i64 0, .int .i64 0, .int .i64 0, .int .i64 0, .int .i64 0] 23) fun vw301 =>
      St vw301 (⟨vw300.heap.size, 0, none⟩ : Addr) (.int .i64 (r298.1)) fun vw302 =>
      St vw302 ((⟨vw300.heap.size, 0, none⟩ : Addr).add 1) (.int .i64 (r298.2.1)) fun vw303 =>
      St vw303 ((⟨vw300.heap.size, 0, none⟩ : Addr).add 2) (.int .i64 (r298.2.2.1)) fun vw304 =>
      St vw304 ((⟨vw300.heap.size, 0, none⟩ : Addr).add 3) (.int .i64 (r298.2.2.2.1)) fun vw305 =>
      St vw305 ((⟨vw300.heap.size, 0, none⟩ : Addr).add 4) (.int .i64 (r298.2.2.2.2.1)) fun vw306 =>
      St vw306 ((⟨vw300.heap.size, 0, none⟩ : Addr).add 5) (.int .i64 (r298.2.2.2.2.2)) fun vw307 =>
      Ld vw307 (⟨vw300.heap.size, 0, none⟩ : Addr) (Value.int .i64) fun (x308 : Int) =>
      Ld vw307 ((⟨vw300.heap.size, 0, none⟩ : Addr).add 1) (Value.int .i64) fun (x309 : Int) =>
      Ld vw307 ((⟨vw300.heap.size, 0, none⟩ : Addr).add 2) (Value.int .i64) fun (x310 : Int) =>
      Ld vw307 ((⟨vw300.heap.size, 0, none⟩ : Addr).add 3) (Value.int .i64) fun (x311 : Int) =>
      Ld vw307 ((⟨vw300.heap.size, 0, none⟩ : Addr).add 4) (Value.int .i64) fun (x312 : Int) =>
      Ld vw307 ((⟨vw300.heap.size, 0, none⟩ : Addr).add 5) (Value.int .i64) fun (x313 : Int) =>
      Ld vw307 (((⟨w.heap.size, 0, none⟩ : Addr).add 22).add 5) (Value.int .i64) fun (x314 : Int) =>
      C10 (x308, x309, x310, x311, x312, x313) (0, x314) vw307 fun r315 r316 vw317 =>
        Nw vw317 (.cells #[.int .i64 0, .int .i64 0] 43) fun vw318 =>
        St vw318 (⟨vw317.heap.size, 0, none⟩ : Addr) (.int .i64 (r315.1)) fun vw319 =>
        St vw319 ((⟨vw317.heap.size, 0, none⟩ : Addr).add 1) (.int .i64 (r315.2)) fun vw320 =>
        LdT vw320 (⟨w.heap.size, 0, none⟩ : Addr) 0 LiA29 fun (x321 : TyA29) =>
        LdT vw320 (⟨vw7.heap.size, 0, none⟩ : Addr) 0 LiA33 fun (x322 : TyA33) =>
        C11 x321 x322 x285 vw320 fun r323 r324 vw325 =>
          Join (S3J1 w vw7 r95 vw109 s281 I283 x285 r299 r316 vw317 r324 R) fun (vJ356 : (Addr × Int) → World → Prop) =>
            ∃ vS357 : World → Prop, vS357 vw325.drew ∧ LdS vS357 (⟨vw109.heap.size, 0, none⟩ : Addr) (Value.int .i64) fun (x358 : Int) =>
            LdS vS357 ((⟨vw109.heap.size, 0, none⟩ : Addr).add 1) (Value.int .i64) fun (x359 : Int) =>
            LdS vS357 ((⟨vw109.heap.size, 0, none⟩ : Addr).add 2) (Value.int .i64) fun (x360 : Int) =>
            LdS vS357 ((⟨vw109.heap.size, 0, none⟩ : Addr).add 3) (Value.int .i64) fun (x361 : Int) =>
            LdS vS357 ((⟨vw109.heap.size, 0, none⟩ : Addr).add 4) (Value.int .i64) fun (x362 : Int) =>
            LdS vS357 ((⟨vw109.heap.size, 0, none⟩ : Addr).add 5) (Value.int .i64) fun (x363 : Int) =>
            (C7 r323 0 vw325.drew fun r364 vw365 =>
                vS357 vw365 ∧ (C9 (r364.1, r364.2.1, r364.2.2.1, r364.2.2.2.1, r364.2.2.2.2.1, r364.2.2.2.2.2) (x358, x359, x360, x361, x362, x363) vw365 fun r366 r367 vw368 =>
                    Nw vw368 (.cells #[.int .i64 0, .int .i64 0, .int .i64 0, .int .i64 0, .int .i64 0, .int .i64 0] 23) fun vw369 =>
                    St vw369 (⟨vw368.heap.size, 0, none⟩ : Addr) (.int .i64 (r366.1)) fun vw370 =>
                    St vw370 ((⟨vw368.heap.size, 0, none⟩ : Addr).add 1) (.int .i64 (r366.2.1)) fun vw371 =>
                    St vw371 ((⟨vw368.heap.size, 0, none⟩ : Addr).add 2) (.int .i64 (r366.2.2.1)) fun vw372 =>
                    St vw372 ((⟨vw368.heap.size, 0, none⟩ : Addr).add 3) (.int .i64 (r366.2.2.2.1)) fun vw373 =>
                    St vw373 ((⟨vw368.heap.size, 0, none⟩ : Addr).add 4) (.int .i64 (r366.2.2.2.2.1)) fun vw374 =>
                    St vw374 ((⟨vw368.heap.size, 0, none⟩ : Addr).add 5) (.int .i64 (r366.2.2.2.2.2)) fun vw375 =>
                    vJ356 ((⟨vw368.heap.size, 0, none⟩ : Addr), r367) vw375) ∧
                (Nw vw365 (.cells #[.int .i64 0, .int .i64 0, .int .i64 0, .int .i64 0, .int .i64 0, .int .i64 0] 23) fun vw376 =>
                  vS357 vw376 ∧ C9 (r364.1, r364.2.1, r364.2.2.1, r364.2.2.2.1, r364.2.2.2.2.1, r364.2.2.2.2.2) (x358, x359, x360, x361, x362, x363) vw376 fun r377 r378 vw379 =>
                    St vw379 (⟨vw365.heap.size, 0, none⟩ : Addr) (.int .i64 (r377.1)) fun vw380 =>
                    St vw380 ((⟨vw365.heap.size, 0, none⟩ : Addr).add 1) (.int .i64 (r377.2.1)) fun vw381 =>
                    St vw381 ((⟨vw365.heap.size, 0, none⟩ : Addr).add 2) (.int .i64 (r377.2.2.1)) fun vw382 =>
                    St vw382 ((⟨vw365.heap.size, 0, none⟩ : Addr).add 3) (.int .i64 (r377.2.2.2.1)) fun vw383 =>
                    St vw383 ((⟨vw365.heap.size, 0, none⟩ : Addr).add 4) (.int .i64 (r377.2.2.2.2.1)) fun vw384 =>
                    St vw384 ((⟨vw365.heap.size, 0, none⟩ : Addr).add 5) (.int .i64 (r377.2.2.2.2.2)) fun vw385 =>
                    vJ356 ((⟨vw365.heap.size, 0, none⟩ : Addr), r378) vw385)) ∧
            (Nw vw325.drew (.cells #[.int .i64 0, .int .i64 0, .int .i64 0, .int .i64 0, .int .i64 0, .int .i64 0] 23) fun vw386 =>
              vS357 vw386 ∧ C7 r323 0 vw386 fun r387 vw388 =>
                vS357 vw388 ∧ C9 (r387.1, r387.2.1, r387.2.2.1, r387.2.2.2.1, r387.2.2.2.2.1, r387.2.2.2.2.2) (x358, x359, x360, x361, x362, x363) vw388 fun r389 r390 vw391 =>
                  St vw391 (⟨vw325.drew.heap.size, 0, none⟩ : Addr) (.int .i64 (r389.1)) fun vw392 =>
                  St vw392 ((⟨vw325.drew.heap.size, 0, none⟩ : Addr).add 1) (.int .i64 (r389.2.1)) fun vw393 =>
                  St vw393 ((⟨vw325.drew.heap.size, 0, none⟩ : Addr).add 2) (.int .i64 (r389.2.2.1)) fun vw394 =>
                  St vw394 ((⟨vw325.drew.heap.size, 0, none⟩ : Addr).add 3) (.int .i64 (r389.2.2.2.1)) fun vw395 =>
                  St vw395 ((⟨vw325.drew.heap.size, 0, none⟩ : Addr).add 4) (.int .i64 (r389.2.2.2.2.1)) fun vw396 =>
                  St vw396 ((⟨vw325.drew.heap.size, 0, none⟩ : Addr).add 5) (.int .i64 (r389.2.2.2.2.2)) fun vw397 =>
                  vJ356 ((⟨vw325.drew.heap.size, 0, none⟩ : Addr), r390) vw397)) (Ld vw282 (⟨vw109.heap.size, 0, none⟩ : Addr) (Value.int .i64) fun (x411 : Int) =>
    Ld vw282 ((⟨vw109.heap.size, 0, none⟩ : Addr).add 1) (Value.int .i64) fun (x412 : Int) =>
    Ld vw282 ((⟨vw109.heap.size, 0, none⟩ : Addr).add 2) (Value.int .i64) fun (x413 : Int) =>
    Ld vw282 ((⟨vw109.heap.size, 0, none⟩ : Addr).add 3) (Value.int .i64) fun (x414 : Int) =>
    Ld vw282 ((⟨vw109.heap.size, 0, none⟩ : Addr).add 4) (Value.int .i64) fun (x415 : Int) =>
    Ld vw282 ((⟨vw109.heap.size, 0, none⟩ : Addr).add 5) (Value.int .i64) fun (x416 : Int) =>
    Ld vw282 (⟨vw98.heap.size, 0, none⟩ : Addr) (Value.int .i64) fun (x417 : Int) =>
    Ld vw282 ((⟨vw98.heap.size, 0, none⟩ : Addr).add 1) (Value.int .i64) fun (x418 : Int) =>
    Ld vw282 ((⟨vw98.heap.size, 0, none⟩ : Addr).add 2) (Value.int .i64) fun (x419 : Int) =>
    Ld vw282 ((⟨vw98.heap.size, 0, none⟩ : Addr).add 3) (Value.int .i64) fun (x420 : Int) =>
    Ld vw282 ((⟨vw98.heap.size, 0, none⟩ : Addr).add 4) (Value.int .i64) fun (x421 : Int) =>
    Ld vw282 ((⟨vw98.heap.size, 0, none⟩ : Addr).add 5) (Value.int .i64) fun (x422 : Int) =>
    Lt (!((x411 == x417) && ((x412 == x418) && ((x413 == x419) && ((x414 == x420) && ((x415 == x421) && ((x416 == x422) && true))))))) fun (x423 : Bool) =>
    Br x423 (R false vw282) (Join (S3J4 w s4 cut5 vw6 vw7 r95 vw98 R) fun (vJ601 : Unit → World → Prop) =>
        Br (decide (cut5 < 0)) (R true vw282) (Br (decide (cut5 > (((s4).size : Nat) : Int))) (R true vw282) (Ld vw282 ((⟨vw7.heap.size, 0, none⟩ : Addr).add 1) Value.bool fun (x602 : Bool) =>
            Br x602 (Br ((Int.tmod cut5 2) != 0) (R true vw282) (vJ601 () vw282)) (vJ601 () vw282)))))
def S3J5 (w : World) (s4 : ByteArray) (cut5 : Int) (vw6 : World) (vw7 : World) (R : Bool → World → Prop) (s59 : Slc × Addr × Int) (vw60 : World) : Prop :=
  Br (s59.2.2 != 0) (R false vw60) (Br (((s59.1.len : Nat) : Int) != 1) (R false vw60) (0 ≤ (0 : Int) ∧ (0 : Int) < (s59.1.len : Nat) ∧ Nn s59.1.p fun a72 =>
      Ld vw60 ((a72.add (((0 : Int)).toNat * 9)).add 2) (Value.int .i64) fun (x73 : Int) =>
      Ld vw60 (((a72.add (((0 : Int)).toNat * 9)).add 2).add 1) (Value.int .i64) fun (x74 : Int) =>
      Br (!((x73 == 5) && ((x74 == 6) && true))) (R false vw60) (0 ≤ (0 : Int) ∧ (0 : Int) < (s59.1.len : Nat) ∧ Nn s59.1.p fun a75 =>
        Ld vw60 ((a75.add (((0 : Int)).toNat * 9)).add 4) (Value.int .i64) fun (x76 : Int) =>
        Ld vw60 (((a75.add (((0 : Int)).toNat * 9)).add 4).add 1) (Value.int .i64) fun (x77 : Int) =>
        Br (!((x76 == 50005) && ((x77 == 6) && true))) (R false vw60) (Ld vw60 (s59.2.1.add 4) (Value.int .i64) fun (x78 : Int) =>
          Br (x78 != 50005) (R false vw60) (0 ≤ (0 : Int) ∧ (0 : Int) < (s59.1.len : Nat) ∧ Nn s59.1.p fun a79 =>
            Ld vw60 ((a79.add (((0 : Int)).toNat * 9)).add 1) Value.string fun (x80 : ByteArray) =>
            Br (!(x80.toList == (⟨#[65]⟩ : ByteArray).toList)) (R false vw60) (0 ≤ (0 : Int) ∧ (0 : Int) < (s59.1.len : Nat) ∧ Nn s59.1.p fun a81 =>
              Ld vw60 ((a81.add (((0 : Int)).toNat * 9)).add 6) (Value.int .i64) fun (x82 : Int) =>
              Br (x82 != 100000) (R false vw60) (Br (decide ((((s4).size : Nat) : Int) > 40)) (R true vw60) (Ld vw60 ((⟨vw7.heap.size, 0, none⟩ : Addr).add 6) Slc.v fun (x85 : Slc) =>
                  Br (decide (((x85.len : Nat) : Int) > 40)) (R true vw60) (Ld vw60 ((⟨vw7.heap.size, 0, none⟩ : Addr).add 3) Slc.v fun (x86 : Slc) =>
                    Br (decide (((x86.len : Nat) : Int) > 300)) (R true vw60) (LdT vw60 (⟨w.heap.size, 0, none⟩ : Addr) 0 LiA29 fun (x87 : TyA29) =>
                      Ld vw60 (⟨vw6.heap.size, 0, none⟩ : Addr) (Value.int .i64) fun (x88 : Int) =>
                      Ld vw60 ((⟨vw6.heap.size, 0, none⟩ : Addr).add 1) (Value.int .i64) fun (x89 : Int) =>
                      Ld vw60 ((⟨vw6.heap.size, 0, none⟩ : Addr).add 2) (Value.int .i64) fun (x90 : Int) =>
                      Ld vw60 ((⟨vw6.heap.size, 0, none⟩ : Addr).add 3) (Value.int .i64) fun (x91 : Int) =>
                      Ld vw60 ((⟨vw6.heap.size, 0, none⟩ : Addr).add 4) (Value.int .i64) fun (x92 : Int) =>
                      Ld vw60 ((⟨vw6.heap.size, 0, none⟩ : Addr).add 5) (Value.int .i64) fun (x93 : Int) =>
                      LdT vw60 (⟨vw7.heap.size, 0, none⟩ : Addr) 0 LiA33 fun (x94 : TyA33) =>
                      C6 x87 (x88, x89, x90, x91, x92, x93) x94 s4 vw60 fun r95 r96 r97 vw98 =>
                        Nw vw98 (.cells #[.int .i64 0, .int .i64 0, .int .i64 0, .int .i64 0, .int .i64 0, .int .i64 0] 23) fun vw99 =>
                        St vw99 (⟨vw98.heap.size, 0, none⟩ : Addr) (.int .i64 (r96.1)) fun vw100 =>
                        St vw100 ((⟨vw98.heap.size, 0, none⟩ : Addr).add 1) (.int .i64 (r96.2.1)) fun vw101 =>
                        St vw101 ((⟨vw98.heap.size, 0, none⟩ : Addr).add 2) (.int .i64 (r96.2.2.1)) fun vw102 =>
                        St vw102 ((⟨vw98.heap.size, 0, none⟩ : Addr).add 3) (.int .i64 (r96.2.2.2.1)) fun vw103 =>
                        St vw103 ((⟨vw98.heap.size, 0, none⟩ : Addr).add 4) (.int .i64 (r96.2.2.2.2.1)) fun vw104 =>
                        St vw104 ((⟨vw98.heap.size, 0, none⟩ : Addr).add 5) (.int .i64 (r96.2.2.2.2.2)) fun vw105 =>
                        LdT vw105 (⟨vw7.heap.size, 0, none⟩ : Addr) 0 LiA33 fun (x106 : TyA33) =>
                        C8 x106 s4 vw105 fun r107 r108 vw109 =>
                          Br (r97 != 0) (R (((r95.len : Nat) : Int) == 0) vw109) (Br (r108 != 0) (R false vw109) (Br (((r107.len : Nat) : Int) != ((r95.len : Nat) : Int)) (R false vw109) (Ld vw109 (⟨vw6.heap.size, 0, none⟩ : Addr) (Value.int .i64) fun (x110 : Int) =>
                                Ld vw109 ((⟨vw6.heap.size, 0, none⟩ : Addr).add 1) (Value.int .i64) fun (x111 : Int) =>
                                Ld vw109 ((⟨vw6.heap.size, 0, none⟩ : Addr).add 2) (Value.int .i64) fun (x112 : Int) =>
                                Ld vw109 ((⟨vw6.heap.size, 0, none⟩ : Addr).add 3) (Value.int .i64) fun (x113 : Int) =>
                                Ld vw109 ((⟨vw6.heap.size, 0, none⟩ : Addr).add 4) (Value.int .i64) fun (x114 : Int) =>
                                Ld vw109 ((⟨vw6.heap.size, 0, none⟩ : Addr).add 5) (Value.int .i64) fun (x115 : Int) =>
                                Nw vw109 (.cells #[.int .i64 0, .int .i64 0, .int .i64 0, .int .i64 0, .int .i64 0, .int .i64 0] 23) fun vw116 =>
                                St vw116 (⟨vw109.heap.size, 0, none⟩ : Addr) (.int .i64 x110) fun vw117 =>
                                St vw117 ((⟨vw109.heap.size, 0, none⟩ : Addr).add 1) (.int .i64 x111) fun vw118 =>
                                St vw118 ((⟨vw109.heap.size, 0, none⟩ : Addr).add 2) (.int .i64 x112) fun vw119 =>
                                St vw119 ((⟨vw109.heap.size, 0, none⟩ : Addr).add 3) (.int .i64 x113) fun vw120 =>
                                St vw120 ((⟨vw109.heap.size, 0, none⟩ : Addr).add 4) (.int .i64 x114) fun vw121 =>
                                St vw121 ((⟨vw109.heap.size, 0, none⟩ : Addr).add 5) (.int .i64 x115) fun vw122 =>
                                Lp (σ := Int) (S3L2 w s4 cut5 vw6 vw7 r95 vw98 r107 vw109 R) 0 vw122)))))))))))))
/-- foliant/folianttop.TopComposed -/
def S3 (g1 : TyA29) (m2 : Int × Int × Int × Int × Int × Int) (f3 : TyA33) (s4 : ByteArray) (cut5 : Int) (w : World) (R : Bool → World → Prop) : Prop :=
  Nw w (.cells (Sig.cells LiA29 g1).toArray 30) fun vw6 =>
  Nw vw6 (.cells #[.int .i64 (m2.1), .int .i64 (m2.2.1), .int .i64 (m2.2.2.1), .int .i64 (m2.2.2.2.1), .int .i64 (m2.2.2.2.2.1), .int .i64 (m2.2.2.2.2.2)] 23) fun vw7 =>
  Nw vw7 (.cells (Sig.cells LiA33 f3).toArray 34) fun vw8 =>
  Nw vw8 (.cells #[.int .i64 500] 2) fun vw9 =>
  Nw vw9 (.cells #[.string ((⟨#[]⟩ : ByteArray)), .bool false, .int .i64 0, Slc.v ((⟨none, 0, 0⟩ : Slc)), .int .i64 0, Slc.v ((⟨none, 0, 0⟩ : Slc)), Slc.v ((⟨none, 0, 0⟩ : Slc))] 34) fun vw10 =>
  StT (⟨vw9.heap.size, 0, none⟩ : Addr) 0 LiA33 (((⟨#[120]⟩ : ByteArray), false, 65, (⟨some ⟨vw8.heap.size, 0, none⟩, 1, 1⟩ : Slc), 0, (⟨none, 0, 0⟩ : Slc), (⟨none, 0, 0⟩ : Slc)) : TyA33) vw10 fun vw11 =>
  C5 vw11 fun r12 vw13 =>
    C4 (r12.1, r12.2.1, r12.2.2.1, r12.2.2.2.1, r12.2.2.2.2.1, r12.2.2.2.2.2) vw13 fun r14 vw15 =>
      Nw vw15 (.cells #[.int .i64 0, .int .i64 0, .int .i64 0, .int .i64 0, .int .i64 0, .int .i64 0, .int .i64 0, .int .i64 0, .int .i64 0, .int .i64 0, Slc.v ((⟨none, 0, 0⟩ : Slc)), .int .i64 0, .int .i64 0, .int .i64 0, .int .i64 0, .int .i64 0, .int .i64 0, .int .i64 0, .int .i64 0, .int .i64 0, .int .i64 0, .int .i64 0, .int .i64 0, .int .i64 0, .int .i64 0, .int .i64 0, .int .i64 0, .int .i64 0, .string ((⟨#[]⟩ : ByteArray)), .int .i64 0] 30) fun vw16 =>
      StT (⟨vw15.heap.size, 0, none⟩ : Addr) 0 LiA29 r14 vw16 fun vw17 =>
      St vw17 (((⟨vw15.heap.size, 0, none⟩ : Addr).add 22).add 4) (.int .i64 100000) fun vw18 =>
      Join (S3J5 w s4 cut5 vw6 vw7 R) fun (vJ603 : (Slc × Addr × Int) → World → Prop) =>
        ∃ vS604 : World → Prop, vS604 vw18.drew ∧ LdST vS604 (⟨vw15.heap.size, 0, none⟩ : Addr) 0 LiA29 fun (x605 : TyA29) =>
        LdST vS604 (⟨vw9.heap.size, 0, none⟩ : Addr) 0 LiA33 fun (x606 : TyA33) =>
        (C7 5 6 vw18.drew fun r607 vw608 =>
            vS604 vw608 ∧ (C6 x605 (r607.1, r607.2.1, r607.2.2.1, r607.2.2.2.1, r607.2.2.2.2.1, r607.2.2.2.2.2) x606 (⟨#[65]⟩ : ByteArray) vw608 fun r609 r610 r611 vw612 =>
                Nw vw612 (.cells #[.int .i64 0, .int .i64 0, .int .i64 0, .int .i64 0, .int .i64 0, .int .i64 0] 23) fun vw613 =>
                St vw613 (⟨vw612.heap.size, 0, none⟩ : Addr) (.int .i64 (r610.1)) fun vw614 =>
                St vw614 ((⟨vw612.heap.size, 0, none⟩ : Addr).add 1) (.int .i64 (r610.2.1)) fun vw615 =>
                St vw615 ((⟨vw612.heap.size, 0, none⟩ : Addr).add 2) (.int .i64 (r610.2.2.1)) fun vw616 =>
                St vw616 ((⟨vw612.heap.size, 0, none⟩ : Addr).add 3) (.int .i64 (r610.2.2.2.1)) fun vw617 =>
                St vw617 ((⟨vw612.heap.size, 0, none⟩ : Addr).add 4) (.int .i64 (r610.2.2.2.2.1)) fun vw618 =>
                St vw618 ((⟨vw612.heap.size, 0, none⟩ : Addr).add 5) (.int .i64 (r610.2.2.2.2.2)) fun vw619 =>
                vJ603 (r609, (⟨vw612.heap.size, 0, none⟩ : Addr), r611) vw619) ∧
            (Nw vw608 (.cells #[.int .i64 0, .int .i64 0, .int .i64 0, .int .i64 0, .int .i64 0, .int .i64 0] 23) fun vw620 =>
              vS604 vw620 ∧ C6 x605 (r607.1, r607.2.1, r607.2.2.1, r607.2.2.2.1, r607.2.2.2.2.1, r607.2.2.2.2.2) x606 (⟨#[65]⟩ : ByteArray) vw620 fun r621 r622 r623 vw624 =>
                St vw624 (⟨vw608.heap.size, 0, none⟩ : Addr) (.int .i64 (r622.1)) fun vw625 =>
                St vw625 ((⟨vw608.heap.size, 0, none⟩ : Addr).add 1) (.int .i64 (r622.2.1)) fun vw626 =>
                St vw626 ((⟨vw608.heap.size, 0, none⟩ : Addr).add 2) (.int .i64 (r622.2.2.1)) fun vw627 =>
                St vw627 ((⟨vw608.heap.size, 0, none⟩ : Addr).add 3) (.int .i64 (r622.2.2.2.1)) fun vw628 =>
                St vw628 ((⟨vw608.heap.size, 0, none⟩ : Addr).add 4) (.int .i64 (r622.2.2.2.2.1)) fun vw629 =>
                St vw629 ((⟨vw608.heap.size, 0, none⟩ : Addr).add 5) (.int .i64 (r622.2.2.2.2.2)) fun vw630 =>
                vJ603 (r621, (⟨vw608.heap.size, 0, none⟩ : Addr), r623) vw630)) ∧
        (Nw vw18.drew (.cells #[.int .i64 0, .int .i64 0, .int .i64 0, .int .i64 0, .int .i64 0, .int .i64 0] 23) fun vw631 =>
          vS604 vw631 ∧ C7 5 6 vw631 fun r632 vw633 =>
            vS604 vw633 ∧ C6 x605 (r632.1, r632.2.1, r632.2.2.1, r632.2.2.2.1, r632.2.2.2.2.1, r632.2.2.2.2.2) x606 (⟨#[65]⟩ : ByteArray) vw633 fun r634 r635 r636 vw637 =>
              St vw637 (⟨vw18.drew.heap.size, 0, none⟩ : Addr) (.int .i64 (r635.1)) fun vw638 =>
              St vw638 ((⟨vw18.drew.heap.size, 0, none⟩ : Addr).add 1) (.int .i64 (r635.2.1)) fun vw639 =>
              St vw639 ((⟨vw18.drew.heap.size, 0, none⟩ : Addr).add 2) (.int .i64 (r635.2.2.1)) fun vw640 =>
              St vw640 ((⟨vw18.drew.heap.size, 0, none⟩ : Addr).add 3) (.int .i64 (r635.2.2.2.1)) fun vw641 =>
              St vw641 ((⟨vw18.drew.heap.size, 0, none⟩ : Addr).add 4) (.int .i64 (r635.2.2.2.2.1)) fun vw642 =>
              St vw642 ((⟨vw18.drew.heap.size, 0, none⟩ : Addr).add 5) (.int .i64 (r635.2.2.2.2.2)) fun vw643 =>
              vJ603 (r634, (⟨vw18.drew.heap.size, 0, none⟩ : Addr), r636) vw643)
def pl3 : Plan := (.seq (.reg .seq) (.seq (.reg .seq) (.seq (.reg .seq) (.seq (.reg .seq) (.join [(13, (.one .slc)), (14, (.one .addr)), (15, (.one (.int .i64)))] [3, 4, 5, 6, 7] (.reg (.held [3] (.take 0 (.take 2 (.effs 1 none (.effs 3 (some [8]) (.take 4 (.take 5 (.take 6 (.take 7 (.eff 8 (some [10]) (.take 9 (.eff 10 (some []) (.take 11 .done)))))))) (.eff 8 none (.eff 3 (some [10]) (.take 4 (.take 5 (.take 6 (.take 7 (.take 9 (.eff 10 (some []) (.take 11 .done)))))))))) (.eff 8 none (.eff 1 none (.eff 3 (some [10]) (.take 4 (.take 5 (.take 6 (.take 7 (.take 9 (.eff 10 (some []) (.take 11 .done))))))))))))))) (.seq (.seq (.reg .seq) (.cond (.seq (.reg .seq) .leaf) .leaf)) (.seq (.seq (.reg .seq) (.cond (.seq (.reg .seq) .leaf) .leaf)) (.seq (.reg .seq) (.seq (.reg .seq) (.seq (.seq (.reg .seq) (.cond (.seq (.reg .seq) .leaf) .leaf)) (.seq (.seq (.reg .seq) (.cond (.seq (.reg .seq) .leaf) .leaf)) (.seq (.reg .seq) (.seq (.seq (.reg .seq) (.block (.loop [(143, (.one (.int .i64)))] [3, 4, 5, 6, 7, 16, 17, 21, 141, 142] (.seq (.reg .seq) (.seq (.cond .leaf .leaf) (.seq (.block (.seq (.reg .seq) (.seq (.reg .seq) (.seq (.reg .seq) (.seq (.reg .seq) (.join [(30, (.one .addr)), (31, (.one (.int .i64)))] [3, 4, 5, 6, 7, 16, 17, 21, 22, 23, 25, 26, 27, 29, 141, 142, 143] (.reg (.held [3] (.take 0 (.take 2 (.effs 1 none (.effs 3 (some [7]) (.take 4 (.take 5 (.take 6 (.eff 7 (some [8]) (.eff 8 (some []) (.take 9 .done)))))) (.eff 7 none (.eff 3 (some [8]) (.take 4 (.take 5 (.take 6 (.eff 8 (some []) (.take 9 .done)))))))) (.eff 7 none (.eff 1 none (.eff 3 (some [8]) (.take 4 (.take 5 (.take 6 (.eff 8 (some []) (.take 9 .done))))))))))))) (.seq (.seq (.reg (.held [] (.take 0 (.take 1 (.take 2 (.take 3 (.take 4 (.take 5 (.take 6 (.take 7 (.take 8 (.take 9 (.take 10 (.take 11 (.take 12 (.take 13 (.take 14 (.take 15 (.take 16 (.take 17 (.take 18 (.take 19 (.take 20 (.take 21 (.take 22 (.take 23 (.take 24 (.take 25 (.take 26 (.take 27 (.take 28 (.take 29 (.take 30 (.eff 31 none (.take 32 (.take 33 (.take 34 (.take 35 (.take 36 (.take 37 (.take 38 (.take 39 (.take 40 (.take 41 (.take 42 (.take 43 (.take 44 (.take 45 (.take 46 (.take 47 (.take 48 (.take 49 (.take 50 (.take 51 (.take 52 (.take 53 .done)))))))))))))))))))))))))))))))))))))))))))))))))))))))) (.cond (.seq (.reg .seq) .leaf) .leaf)) (.reg .seq)))))))) (.reg .seq))))))) (.seq (.seq (.reg .seq) (.cond (.seq (.reg .seq) .leaf) .leaf)) (.join [] [3, 4, 5, 6, 7, 16, 17] (.seq (.reg .seq) (.cond (.seq (.reg .seq) .leaf) .leaf)) (.join [(32, (.one .slc)), (33, (.one .addr)), (34, (.one (.int .i64)))] [3, 4, 5, 7, 16, 17] (.reg (.held [6] (.take 0 (.take 1 (.take 2 (.take 3 (.take 4 (.take 5 (.effs 6 (some [11]) (.take 7 (.take 8 (.take 9 (.take 10 (.eff 11 (some [13]) (.take 12 (.eff 13 (some []) (.take 14 .done)))))))) (.eff 11 none (.eff 6 (some [13]) (.take 7 (.take 8 (.take 9 (.take 10 (.take 12 (.eff 13 (some []) (.take 14 .done)))))))))))))))))) (.join [(35, (.one .slc)), (36, (.one .addr)), (37, (.one (.int .i64)))] [16, 17, 32, 34] (.reg (.held [6] (.take 0 (.take 1 (.take 2 (.take 3 (.take 4 (.take 5 (.effs 6 (some [11]) (.take 7 (.take 8 (.take 9 (.take 10 (.eff 11 (some [13]) (.take 12 (.eff 13 (some []) (.take 14 .done)))))))) (.eff 11 none (.eff 6 (some [13]) (.take 7 (.take 8 (.take 9 (.take 10 (.take 12 (.eff 13 (some []) (.take 14 .done)))))))))))))))))) (.seq (.seq (.reg .seq) (.cond (.seq (.reg .seq) .leaf) .leaf)) (.seq (.seq (.reg .seq) (.block (.loop [(303, (.one (.int .i64)))] [16, 301, 302] (.seq (.reg .seq) (.seq (.cond .leaf .leaf) (.seq (.block (.seq (.reg .seq) (.seq (.reg .still) (.cond (.seq (.reg .seq) .leaf) .leaf)))) (.reg .seq))))))) (.seq (.reg .seq) .leaf))))))))))))))))))))
set_option maxRecDepth 100000 in
theorem T3 (g1 : TyA29) (m2 : Int × Int × Int × Int × Int × Int) (f3 : TyA33) (s4 : ByteArray) (cut5 : Int) (w : World) (R : Bool → World → Prop) (h : S3 g1 m2 f3 s4 cut5 w R) : C3 g1 (m2.1, m2.2.1, m2.2.2.1, m2.2.2.2.1, m2.2.2.2.2.1, m2.2.2.2.2.2) f3 s4 cut5 w R := by
  have e : fnT Tryd.prog ⟨FF, MAY, (fun _ _ => False)⟩ pl3 Tryd.f3 [.agg (Sig.cells LiA29 g1).toArray, .agg #[.int .i64 (m2.1), .int .i64 (m2.2.1), .int .i64 (m2.2.2.1), .int .i64 (m2.2.2.2.1), .int .i64 (m2.2.2.2.2.1), .int .i64 (m2.2.2.2.2.2)], .agg (Sig.cells LiA33 f3).toArray, .string s4, .int .i64 cut5] w [(.one .bool)] (fun s w => R s w) = S3 g1 m2 f3 s4 cut5 w R := by kernel_rfl
  exact (fn_calls okF okM Tryd.func3 (by kernel_rfl) (by kernel_rfl) (e.mpr h)).mono fun _ _ ⟨s, he, hR⟩ => ⟨s, he, hR⟩

end Go.Proofs.YtcblpehnkogfdaaDoor
