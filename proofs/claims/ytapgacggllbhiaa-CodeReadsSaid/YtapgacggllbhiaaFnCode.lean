/- The formulas of 21 functions of the program, written by program (gen.py); the kernel checks each. No condition. -/
import Derived.Test.YtapgacggllbhiaaFn
import Derived.Test.YtapgacggllbhiaaFnBit
namespace Go.Proofs.Ytapgacggllbhiaa
open Sh
set_option linter.unusedVariables false
set_option maxRecDepth 100000

def C29 (lens1 : Slc) (w : World) (R : (Int × Int × Int × Int × Int × Int × Int × Int × Int × Int × Int × Int × Int × Int × Int × Int) → World → Prop) : Prop :=
  Calls Try.prog 29 #[Slc.v lens1] w fun e w' => ∃ r0 : Int × Int × Int × Int × Int × Int × Int × Int × Int × Int × Int × Int × Int × Int × Int × Int, e = .returned (.agg #[.int .i64 (r0.1), .int .i64 (r0.2.1), .int .i64 (r0.2.2.1), .int .i64 (r0.2.2.2.1), .int .i64 (r0.2.2.2.2.1), .int .i64 (r0.2.2.2.2.2.1), .int .i64 (r0.2.2.2.2.2.2.1), .int .i64 (r0.2.2.2.2.2.2.2.1), .int .i64 (r0.2.2.2.2.2.2.2.2.1), .int .i64 (r0.2.2.2.2.2.2.2.2.2.1), .int .i64 (r0.2.2.2.2.2.2.2.2.2.2.1), .int .i64 (r0.2.2.2.2.2.2.2.2.2.2.2.1), .int .i64 (r0.2.2.2.2.2.2.2.2.2.2.2.2.1), .int .i64 (r0.2.2.2.2.2.2.2.2.2.2.2.2.2.1), .int .i64 (r0.2.2.2.2.2.2.2.2.2.2.2.2.2.2.1), .int .i64 (r0.2.2.2.2.2.2.2.2.2.2.2.2.2.2.2)]) ∧ R r0 w'
theorem C29.mono {lens1 : Slc} {w : World} {R R' : (Int × Int × Int × Int × Int × Int × Int × Int × Int × Int × Int × Int × Int × Int × Int × Int) → World → Prop} (h : C29 lens1 w R) (hr : ∀ r0 w', R r0 w' → R' r0 w') : C29 lens1 w R' :=
  Calls.mono h fun _ _ ⟨r0, he, hR⟩ => ⟨r0, he, hr _ _ hR⟩
def C13 (lens1 : Slc) (w : World) (R : Int → World → Prop) : Prop :=
  Calls Try.prog 13 #[Slc.v lens1] w fun e w' => ∃ r0 : Int, e = .returned (.int .i64 r0) ∧ R r0 w'
theorem C13.mono {lens1 : Slc} {w : World} {R R' : Int → World → Prop} (h : C13 lens1 w R) (hr : ∀ r0 w', R r0 w' → R' r0 w') : C13 lens1 w R' :=
  Calls.mono h fun _ _ ⟨r0, he, hR⟩ => ⟨r0, he, hr _ _ hR⟩
def C28 (n1 : Int × Int × Int × Int × Int × Int × Int × Int × Int × Int × Int × Int × Int × Int × Int × Int) (w : World) (R : (Int × Int × Int × Int × Int × Int × Int × Int × Int × Int × Int × Int × Int × Int × Int × Int) → World → Prop) : Prop :=
  Calls Try.prog 28 #[.agg #[.int .i64 (n1.1), .int .i64 (n1.2.1), .int .i64 (n1.2.2.1), .int .i64 (n1.2.2.2.1), .int .i64 (n1.2.2.2.2.1), .int .i64 (n1.2.2.2.2.2.1), .int .i64 (n1.2.2.2.2.2.2.1), .int .i64 (n1.2.2.2.2.2.2.2.1), .int .i64 (n1.2.2.2.2.2.2.2.2.1), .int .i64 (n1.2.2.2.2.2.2.2.2.2.1), .int .i64 (n1.2.2.2.2.2.2.2.2.2.2.1), .int .i64 (n1.2.2.2.2.2.2.2.2.2.2.2.1), .int .i64 (n1.2.2.2.2.2.2.2.2.2.2.2.2.1), .int .i64 (n1.2.2.2.2.2.2.2.2.2.2.2.2.2.1), .int .i64 (n1.2.2.2.2.2.2.2.2.2.2.2.2.2.2.1), .int .i64 (n1.2.2.2.2.2.2.2.2.2.2.2.2.2.2.2)]] w fun e w' => ∃ r0 : Int × Int × Int × Int × Int × Int × Int × Int × Int × Int × Int × Int × Int × Int × Int × Int, e = .returned (.agg #[.int .i64 (r0.1), .int .i64 (r0.2.1), .int .i64 (r0.2.2.1), .int .i64 (r0.2.2.2.1), .int .i64 (r0.2.2.2.2.1), .int .i64 (r0.2.2.2.2.2.1), .int .i64 (r0.2.2.2.2.2.2.1), .int .i64 (r0.2.2.2.2.2.2.2.1), .int .i64 (r0.2.2.2.2.2.2.2.2.1), .int .i64 (r0.2.2.2.2.2.2.2.2.2.1), .int .i64 (r0.2.2.2.2.2.2.2.2.2.2.1), .int .i64 (r0.2.2.2.2.2.2.2.2.2.2.2.1), .int .i64 (r0.2.2.2.2.2.2.2.2.2.2.2.2.1), .int .i64 (r0.2.2.2.2.2.2.2.2.2.2.2.2.2.1), .int .i64 (r0.2.2.2.2.2.2.2.2.2.2.2.2.2.2.1), .int .i64 (r0.2.2.2.2.2.2.2.2.2.2.2.2.2.2.2)]) ∧ R r0 w'
theorem C28.mono {n1 : Int × Int × Int × Int × Int × Int × Int × Int × Int × Int × Int × Int × Int × Int × Int × Int} {w : World} {R R' : (Int × Int × Int × Int × Int × Int × Int × Int × Int × Int × Int × Int × Int × Int × Int × Int) → World → Prop} (h : C28 n1 w R) (hr : ∀ r0 w', R r0 w' → R' r0 w') : C28 n1 w R' :=
  Calls.mono h fun _ _ ⟨r0, he, hR⟩ => ⟨r0, he, hr _ _ hR⟩
def C9 (lens1 : Slc) (w : World) (R : Slc → Int → World → Prop) : Prop :=
  Calls Try.prog 9 #[Slc.v lens1] w fun e w' => ∃ r0 : Slc, ∃ r1 : Int, e = .returned (.tuple #[Slc.v r0, .int .i64 r1]) ∧ R r0 r1 w'
theorem C9.mono {lens1 : Slc} {w : World} {R R' : Slc → Int → World → Prop} (h : C9 lens1 w R) (hr : ∀ r0 r1 w', R r0 r1 w' → R' r0 r1 w') : C9 lens1 w R' :=
  Calls.mono h fun _ _ ⟨r0, r1, he, hR⟩ => ⟨r0, r1, he, hr _ _ _ hR⟩
def C31 (n1 : Int) (w : World) (R : Int → World → Prop) : Prop :=
  Calls Try.prog 31 #[.int .i64 n1] w fun e w' => ∃ r0 : Int, e = .returned (.int .i64 r0) ∧ R r0 w'
theorem C31.mono {n1 : Int} {w : World} {R R' : Int → World → Prop} (h : C31 n1 w R) (hr : ∀ r0 w', R r0 w' → R' r0 w') : C31 n1 w R' :=
  Calls.mono h fun _ _ ⟨r0, he, hR⟩ => ⟨r0, he, hr _ _ hR⟩
def C32 (lens1 : Slc) (w : World) (R : Int → World → Prop) : Prop :=
  Calls Try.prog 32 #[Slc.v lens1] w fun e w' => ∃ r0 : Int, e = .returned (.int .i64 r0) ∧ R r0 w'
theorem C32.mono {lens1 : Slc} {w : World} {R R' : Int → World → Prop} (h : C32 lens1 w R) (hr : ∀ r0 w', R r0 w' → R' r0 w') : C32 lens1 w R' :=
  Calls.mono h fun _ _ ⟨r0, he, hR⟩ => ⟨r0, he, hr _ _ hR⟩
def C14 (lens1 : Slc) (w : World) (R : Int → World → Prop) : Prop :=
  Calls Try.prog 14 #[Slc.v lens1] w fun e w' => ∃ r0 : Int, e = .returned (.int .i64 r0) ∧ R r0 w'
theorem C14.mono {lens1 : Slc} {w : World} {R R' : Int → World → Prop} (h : C14 lens1 w R) (hr : ∀ r0 w', R r0 w' → R' r0 w') : C14 lens1 w R' :=
  Calls.mono h fun _ _ ⟨r0, he, hR⟩ => ⟨r0, he, hr _ _ hR⟩
def C10 (lens1 : Slc) (w : World) (R : Slc → Int → World → Prop) : Prop :=
  Calls Try.prog 10 #[Slc.v lens1] w fun e w' => ∃ r0 : Slc, ∃ r1 : Int, e = .returned (.tuple #[Slc.v r0, .int .i64 r1]) ∧ R r0 r1 w'
theorem C10.mono {lens1 : Slc} {w : World} {R R' : Slc → Int → World → Prop} (h : C10 lens1 w R) (hr : ∀ r0 r1 w', R r0 r1 w' → R' r0 r1 w') : C10 lens1 w R' :=
  Calls.mono h fun _ _ ⟨r0, r1, he, hR⟩ => ⟨r0, r1, he, hr _ _ _ hR⟩
def C30 (s1 : Slc) (w : World) (R : Slc → World → Prop) : Prop :=
  Calls Try.prog 30 #[Slc.v s1] w fun e w' => ∃ r0 : Slc, e = .returned (Slc.v r0) ∧ R r0 w'
theorem C30.mono {s1 : Slc} {w : World} {R R' : Slc → World → Prop} (h : C30 s1 w R) (hr : ∀ r0 w', R r0 w' → R' r0 w') : C30 s1 w R' :=
  Calls.mono h fun _ _ ⟨r0, he, hR⟩ => ⟨r0, he, hr _ _ hR⟩
def C11 (lens1 : Slc) (w : World) (R : Option Addr → Int → World → Prop) : Prop :=
  Calls Try.prog 11 #[Slc.v lens1] w fun e w' => ∃ r0 : Option Addr, ∃ r1 : Int, e = .returned (.tuple #[.pointer r0, .int .i64 r1]) ∧ R r0 r1 w'
theorem C11.mono {lens1 : Slc} {w : World} {R R' : Option Addr → Int → World → Prop} (h : C11 lens1 w R) (hr : ∀ r0 r1 w', R r0 r1 w' → R' r0 r1 w') : C11 lens1 w R' :=
  Calls.mono h fun _ _ ⟨r0, r1, he, hR⟩ => ⟨r0, r1, he, hr _ _ _ hR⟩
def C12 (a1 : Slc) (b2 : Slc) (w : World) (R : Bool → World → Prop) : Prop :=
  Calls Try.prog 12 #[Slc.v a1, Slc.v b2] w fun e w' => ∃ r0 : Bool, e = .returned (.bool r0) ∧ R r0 w'
theorem C12.mono {a1 : Slc} {b2 : Slc} {w : World} {R R' : Bool → World → Prop} (h : C12 a1 b2 w R) (hr : ∀ r0 w', R r0 w' → R' r0 w') : C12 a1 b2 w R' :=
  Calls.mono h fun _ _ ⟨r0, he, hR⟩ => ⟨r0, he, hr _ _ hR⟩
def C15 (lens1 : Slc) (counts2 : Slc) (w : World) (R : Int → World → Prop) : Prop :=
  Calls Try.prog 15 #[Slc.v lens1, Slc.v counts2] w fun e w' => ∃ r0 : Int, e = .returned (.int .i64 r0) ∧ R r0 w'
theorem C15.mono {lens1 : Slc} {counts2 : Slc} {w : World} {R R' : Int → World → Prop} (h : C15 lens1 counts2 w R) (hr : ∀ r0 w', R r0 w' → R' r0 w') : C15 lens1 counts2 w R' :=
  Calls.mono h fun _ _ ⟨r0, he, hR⟩ => ⟨r0, he, hr _ _ hR⟩
def C16 (lens1 : Slc) (counts2 : Slc) (w : World) (R : Int → World → Prop) : Prop :=
  Calls Try.prog 16 #[Slc.v lens1, Slc.v counts2] w fun e w' => ∃ r0 : Int, e = .returned (.int .i64 r0) ∧ R r0 w'
theorem C16.mono {lens1 : Slc} {counts2 : Slc} {w : World} {R R' : Int → World → Prop} (h : C16 lens1 counts2 w R) (hr : ∀ r0 w', R r0 w' → R' r0 w') : C16 lens1 counts2 w R' :=
  Calls.mono h fun _ _ ⟨r0, he, hR⟩ => ⟨r0, he, hr _ _ hR⟩
def C18 (counts1 : Slc) (most2 : Int) (w : World) (R : Int → World → Prop) : Prop :=
  Calls Try.prog 18 #[Slc.v counts1, .int .i64 most2] w fun e w' => ∃ r0 : Int, e = .returned (.int .i64 r0) ∧ R r0 w'
theorem C18.mono {counts1 : Slc} {most2 : Int} {w : World} {R R' : Int → World → Prop} (h : C18 counts1 most2 w R) (hr : ∀ r0 w', R r0 w' → R' r0 w') : C18 counts1 most2 w R' :=
  Calls.mono h fun _ _ ⟨r0, he, hR⟩ => ⟨r0, he, hr _ _ hR⟩
def C37 (l1 : Slc) (n2 : Int) (w : World) (R : Slc → World → Prop) : Prop :=
  Calls Try.prog 37 #[Slc.v l1, .int .i64 n2] w fun e w' => ∃ r0 : Slc, e = .returned (Slc.v r0) ∧ R r0 w'
theorem C37.mono {l1 : Slc} {n2 : Int} {w : World} {R R' : Slc → World → Prop} (h : C37 l1 n2 w R) (hr : ∀ r0 w', R r0 w' → R' r0 w') : C37 l1 n2 w R' :=
  Calls.mono h fun _ _ ⟨r0, he, hR⟩ => ⟨r0, he, hr _ _ hR⟩
def C19 (counts1 : Slc) (most2 : Int) (w : World) (R : Int → World → Prop) : Prop :=
  Calls Try.prog 19 #[Slc.v counts1, .int .i64 most2] w fun e w' => ∃ r0 : Int, e = .returned (.int .i64 r0) ∧ R r0 w'
theorem C19.mono {counts1 : Slc} {most2 : Int} {w : World} {R R' : Int → World → Prop} (h : C19 counts1 most2 w R) (hr : ∀ r0 w', R r0 w' → R' r0 w') : C19 counts1 most2 w R' :=
  Calls.mono h fun _ _ ⟨r0, he, hR⟩ => ⟨r0, he, hr _ _ hR⟩
def C21 (t1 : Option Addr) (r2 : Option Addr) (w : World) (R : Int → Int → World → Prop) : Prop :=
  Calls Try.prog 21 #[.pointer t1, .pointer r2] w fun e w' => ∃ r0 : Int, ∃ r1 : Int, e = .returned (.tuple #[.int .i64 r0, .int .i64 r1]) ∧ R r0 r1 w'
theorem C21.mono {t1 : Option Addr} {r2 : Option Addr} {w : World} {R R' : Int → Int → World → Prop} (h : C21 t1 r2 w R) (hr : ∀ r0 r1 w', R r0 r1 w' → R' r0 r1 w') : C21 t1 r2 w R' :=
  Calls.mono h fun _ _ ⟨r0, r1, he, hR⟩ => ⟨r0, r1, he, hr _ _ _ hR⟩
def C39 (s1 : ByteArray) (vat2 : Int) (w : World) (R : Int → World → Prop) : Prop :=
  Calls Try.prog 39 #[.string s1, .int .i64 vat2] w fun e w' => ∃ r0 : Int, e = .returned (.int .i64 r0) ∧ R r0 w'
theorem C39.mono {s1 : ByteArray} {vat2 : Int} {w : World} {R R' : Int → World → Prop} (h : C39 s1 vat2 w R) (hr : ∀ r0 w', R r0 w' → R' r0 w') : C39 s1 vat2 w R' :=
  Calls.mono h fun _ _ ⟨r0, he, hR⟩ => ⟨r0, he, hr _ _ hR⟩
def C40 (lens1 : Slc) (n2 : Int) (ahead3 : Int) (w : World) (R : Int → World → Prop) : Prop :=
  Calls Try.prog 40 #[Slc.v lens1, .int .i64 n2, .int .i64 ahead3] w fun e w' => ∃ r0 : Int, e = .returned (.int .i64 r0) ∧ R r0 w'
theorem C40.mono {lens1 : Slc} {n2 : Int} {ahead3 : Int} {w : World} {R R' : Int → World → Prop} (h : C40 lens1 n2 ahead3 w R) (hr : ∀ r0 w', R r0 w' → R' r0 w') : C40 lens1 n2 ahead3 w R' :=
  Calls.mono h fun _ _ ⟨r0, he, hR⟩ => ⟨r0, he, hr _ _ hR⟩
def C22 (lens1 : Slc) (s2 : ByteArray) (vat3 : Int) (w : World) (R : Int → Int → Int → World → Prop) : Prop :=
  Calls Try.prog 22 #[Slc.v lens1, .string s2, .int .i64 vat3] w fun e w' => ∃ r0 : Int, ∃ r1 : Int, ∃ r2 : Int, e = .returned (.tuple #[.int .i64 r0, .int .i64 r1, .int .i64 r2]) ∧ R r0 r1 r2 w'
theorem C22.mono {lens1 : Slc} {s2 : ByteArray} {vat3 : Int} {w : World} {R R' : Int → Int → Int → World → Prop} (h : C22 lens1 s2 vat3 w R) (hr : ∀ r0 r1 r2 w', R r0 r1 r2 w' → R' r0 r1 r2 w') : C22 lens1 s2 vat3 w R' :=
  Calls.mono h fun _ _ ⟨r0, r1, r2, he, hR⟩ => ⟨r0, r1, r2, he, hr _ _ _ _ hR⟩
def C25 (t1 : Option Addr) (vw2 : Option Addr) (sign3 : Int) (w : World) (R : Int → World → Prop) : Prop :=
  Calls Try.prog 25 #[.pointer t1, .pointer vw2, .int .i64 sign3] w fun e w' => ∃ r0 : Int, e = .returned (.int .i64 r0) ∧ R r0 w'
theorem C25.mono {t1 : Option Addr} {vw2 : Option Addr} {sign3 : Int} {w : World} {R R' : Int → World → Prop} (h : C25 t1 vw2 sign3 w R) (hr : ∀ r0 w', R r0 w' → R' r0 w') : C25 t1 vw2 sign3 w R' :=
  Calls.mono h fun _ _ ⟨r0, he, hR⟩ => ⟨r0, he, hr _ _ hR⟩

def S29L1 (w : World) (lens1 : Slc) (vw2 : World) (R : (Int × Int × Int × Int × Int × Int × Int × Int × Int × Int × Int × Int × Int × Int × Int × Int) → World → Prop) (I6 : Int → World → Prop) (s4 : Int) (vw5 : World) : Prop :=
  Br (decide (s4 < ((lens1.len : Nat) : Int))) (0 ≤ s4 ∧ s4 < (lens1.len : Nat) ∧ Nn lens1.p fun a7 =>
    Ld vw5 (a7.add ((s4).toNat * 1)) (Value.int .i64) fun (x8 : Int) =>
    Br (decide (x8 > 0)) (0 ≤ x8 ∧ x8 < (16 : Nat) ∧ Ld vw5 ((⟨vw2.heap.size, 0, none⟩ : Addr).add ((x8).toNat * 1)) (Value.int .i64) fun (x9 : Int) =>
      0 ≤ x8 ∧ x8 < (16 : Nat) ∧ St vw5 ((⟨vw2.heap.size, 0, none⟩ : Addr).add ((x8).toNat * 1)) (.int .i64 (IntKind.i64.wrap (x9 + 1))) fun vw10 =>
      I6 (IntKind.i64.wrap (s4 + 1)) vw10) (I6 (IntKind.i64.wrap (s4 + 1)) vw5)) (Ld vw5 (⟨vw2.heap.size, 0, none⟩ : Addr) (Value.int .i64) fun (x11 : Int) =>
    Ld vw5 ((⟨vw2.heap.size, 0, none⟩ : Addr).add 1) (Value.int .i64) fun (x12 : Int) =>
    Ld vw5 ((⟨vw2.heap.size, 0, none⟩ : Addr).add 2) (Value.int .i64) fun (x13 : Int) =>
    Ld vw5 ((⟨vw2.heap.size, 0, none⟩ : Addr).add 3) (Value.int .i64) fun (x14 : Int) =>
    Ld vw5 ((⟨vw2.heap.size, 0, none⟩ : Addr).add 4) (Value.int .i64) fun (x15 : Int) =>
    Ld vw5 ((⟨vw2.heap.size, 0, none⟩ : Addr).add 5) (Value.int .i64) fun (x16 : Int) =>
    Ld vw5 ((⟨vw2.heap.size, 0, none⟩ : Addr).add 6) (Value.int .i64) fun (x17 : Int) =>
    Ld vw5 ((⟨vw2.heap.size, 0, none⟩ : Addr).add 7) (Value.int .i64) fun (x18 : Int) =>
    Ld vw5 ((⟨vw2.heap.size, 0, none⟩ : Addr).add 8) (Value.int .i64) fun (x19 : Int) =>
    Ld vw5 ((⟨vw2.heap.size, 0, none⟩ : Addr).add 9) (Value.int .i64) fun (x20 : Int) =>
    Ld vw5 ((⟨vw2.heap.size, 0, none⟩ : Addr).add 10) (Value.int .i64) fun (x21 : Int) =>
    Ld vw5 ((⟨vw2.heap.size, 0, none⟩ : Addr).add 11) (Value.int .i64) fun (x22 : Int) =>
    Ld vw5 ((⟨vw2.heap.size, 0, none⟩ : Addr).add 12) (Value.int .i64) fun (x23 : Int) =>
    Ld vw5 ((⟨vw2.heap.size, 0, none⟩ : Addr).add 13) (Value.int .i64) fun (x24 : Int) =>
    Ld vw5 ((⟨vw2.heap.size, 0, none⟩ : Addr).add 14) (Value.int .i64) fun (x25 : Int) =>
    Ld vw5 ((⟨vw2.heap.size, 0, none⟩ : Addr).add 15) (Value.int .i64) fun (x26 : Int) =>
    St vw5 (⟨w.heap.size, 0, none⟩ : Addr) (.int .i64 x11) fun vw27 =>
    St vw27 ((⟨w.heap.size, 0, none⟩ : Addr).add 1) (.int .i64 x12) fun vw28 =>
    St vw28 ((⟨w.heap.size, 0, none⟩ : Addr).add 2) (.int .i64 x13) fun vw29 =>
    St vw29 ((⟨w.heap.size, 0, none⟩ : Addr).add 3) (.int .i64 x14) fun vw30 =>
    St vw30 ((⟨w.heap.size, 0, none⟩ : Addr).add 4) (.int .i64 x15) fun vw31 =>
    St vw31 ((⟨w.heap.size, 0, none⟩ : Addr).add 5) (.int .i64 x16) fun vw32 =>
    St vw32 ((⟨w.heap.size, 0, none⟩ : Addr).add 6) (.int .i64 x17) fun vw33 =>
    St vw33 ((⟨w.heap.size, 0, none⟩ : Addr).add 7) (.int .i64 x18) fun vw34 =>
    St vw34 ((⟨w.heap.size, 0, none⟩ : Addr).add 8) (.int .i64 x19) fun vw35 =>
    St vw35 ((⟨w.heap.size, 0, none⟩ : Addr).add 9) (.int .i64 x20) fun vw36 =>
    St vw36 ((⟨w.heap.size, 0, none⟩ : Addr).add 10) (.int .i64 x21) fun vw37 =>
    St vw37 ((⟨w.heap.size, 0, none⟩ : Addr).add 11) (.int .i64 x22) fun vw38 =>
    St vw38 ((⟨w.heap.size, 0, none⟩ : Addr).add 12) (.int .i64 x23) fun vw39 =>
    St vw39 ((⟨w.heap.size, 0, none⟩ : Addr).add 13) (.int .i64 x24) fun vw40 =>
    St vw40 ((⟨w.heap.size, 0, none⟩ : Addr).add 14) (.int .i64 x25) fun vw41 =>
    St vw41 ((⟨w.heap.size, 0, none⟩ : Addr).add 15) (.int .i64 x26) fun vw42 =>
    Ld vw42 (⟨w.heap.size, 0, none⟩ : Addr) (Value.int .i64) fun (x43 : Int) =>
    Ld vw42 ((⟨w.heap.size, 0, none⟩ : Addr).add 1) (Value.int .i64) fun (x44 : Int) =>
    Ld vw42 ((⟨w.heap.size, 0, none⟩ : Addr).add 2) (Value.int .i64) fun (x45 : Int) =>
    Ld vw42 ((⟨w.heap.size, 0, none⟩ : Addr).add 3) (Value.int .i64) fun (x46 : Int) =>
    Ld vw42 ((⟨w.heap.size, 0, none⟩ : Addr).add 4) (Value.int .i64) fun (x47 : Int) =>
    Ld vw42 ((⟨w.heap.size, 0, none⟩ : Addr).add 5) (Value.int .i64) fun (x48 : Int) =>
    Ld vw42 ((⟨w.heap.size, 0, none⟩ : Addr).add 6) (Value.int .i64) fun (x49 : Int) =>
    Ld vw42 ((⟨w.heap.size, 0, none⟩ : Addr).add 7) (Value.int .i64) fun (x50 : Int) =>
    Ld vw42 ((⟨w.heap.size, 0, none⟩ : Addr).add 8) (Value.int .i64) fun (x51 : Int) =>
    Ld vw42 ((⟨w.heap.size, 0, none⟩ : Addr).add 9) (Value.int .i64) fun (x52 : Int) =>
    Ld vw42 ((⟨w.heap.size, 0, none⟩ : Addr).add 10) (Value.int .i64) fun (x53 : Int) =>
    Ld vw42 ((⟨w.heap.size, 0, none⟩ : Addr).add 11) (Value.int .i64) fun (x54 : Int) =>
    Ld vw42 ((⟨w.heap.size, 0, none⟩ : Addr).add 12) (Value.int .i64) fun (x55 : Int) =>
    Ld vw42 ((⟨w.heap.size, 0, none⟩ : Addr).add 13) (Value.int .i64) fun (x56 : Int) =>
    Ld vw42 ((⟨w.heap.size, 0, none⟩ : Addr).add 14) (Value.int .i64) fun (x57 : Int) =>
    Ld vw42 ((⟨w.heap.size, 0, none⟩ : Addr).add 15) (Value.int .i64) fun (x58 : Int) =>
    R (x43, x44, x45, x46, x47, x48, x49, x50, x51, x52, x53, x54, x55, x56, x57, x58) vw42)
/-- foliant/code.counted -/
def S29 (lens1 : Slc) (w : World) (R : (Int × Int × Int × Int × Int × Int × Int × Int × Int × Int × Int × Int × Int × Int × Int × Int) → World → Prop) : Prop :=
  Nw w (.cells #[.int .i64 0, .int .i64 0, .int .i64 0, .int .i64 0, .int .i64 0, .int .i64 0, .int .i64 0, .int .i64 0, .int .i64 0, .int .i64 0, .int .i64 0, .int .i64 0, .int .i64 0, .int .i64 0, .int .i64 0, .int .i64 0] 51) fun vw2 =>
  Nw vw2 (.cells #[.int .i64 0, .int .i64 0, .int .i64 0, .int .i64 0, .int .i64 0, .int .i64 0, .int .i64 0, .int .i64 0, .int .i64 0, .int .i64 0, .int .i64 0, .int .i64 0, .int .i64 0, .int .i64 0, .int .i64 0, .int .i64 0] 51) fun vw3 =>
  Lp (σ := Int) (S29L1 w lens1 vw2 R) 0 vw3
def pl29 : Plan := (.seq (.reg .seq) (.seq (.reg .seq) (.seq (.seq (.reg .seq) (.block (.loop [(8, (.one (.int .i64)))] [2, 3, 6, 7] (.seq (.reg .seq) (.seq (.cond .leaf .leaf) (.seq (.block (.seq (.reg .seq) (.seq (.reg .seq) (.cond (.reg .seq) .leaf)))) (.reg .seq))))))) (.seq (.reg .seq) .leaf))))
set_option maxRecDepth 100000 in
theorem T29 (lens1 : Slc) (w : World) (R : (Int × Int × Int × Int × Int × Int × Int × Int × Int × Int × Int × Int × Int × Int × Int × Int) → World → Prop) (h : S29 lens1 w R) : C29 lens1 w R := by
  have e : fnT Try.prog ⟨FF, MAY, (fun _ _ => False)⟩ pl29 Try.f29 [Slc.v lens1] w [(.agg [(.int .i64), (.int .i64), (.int .i64), (.int .i64), (.int .i64), (.int .i64), (.int .i64), (.int .i64), (.int .i64), (.int .i64), (.int .i64), (.int .i64), (.int .i64), (.int .i64), (.int .i64), (.int .i64)])] (fun s w => R s w) = S29 lens1 w R := by kernel_rfl
  exact (fn_calls okF okM Try.func29 (by kernel_rfl) (by kernel_rfl) (e.mpr h)).mono fun _ _ ⟨s, he, hR⟩ => ⟨s, he, hR⟩

def S13L1 (vw13 : World) (R : Int → World → Prop) (I39 : (Int × Int × Int) → World → Prop) (s37 : Int × Int × Int) (vw38 : World) : Prop :=
  Br (decide (s37.2.2 ≤ 15)) (0 ≤ s37.2.2 ∧ s37.2.2 < (16 : Nat) ∧ Ld vw38 ((⟨vw13.heap.size, 0, none⟩ : Addr).add ((s37.2.2).toNat * 1)) (Value.int .i64) fun (x40 : Int) =>
    0 ≤ (IntKind.i64.wrap (15 - s37.2.2)) ∧ Lt (IntKind.i64.wrap (s37.1 + (IntKind.i64.wrap (x40 * 2 ^ (min (IntKind.i64.wrap (15 - s37.2.2)).toNat 64))))) fun (x41 : Int) =>
    0 ≤ s37.2.2 ∧ s37.2.2 < (16 : Nat) ∧ Ld vw38 ((⟨vw13.heap.size, 0, none⟩ : Addr).add ((s37.2.2).toNat * 1)) (Value.int .i64) fun (x42 : Int) =>
    I39 (x41, IntKind.i64.wrap (s37.2.1 + x42), IntKind.i64.wrap (s37.2.2 + 1)) vw38) (Br (s37.1 == 32768) (R 0 vw38) (Br (s37.2.1 == 0) (R 0 vw38) (Br (s37.2.1 == 1) (Ld vw38 ((⟨vw13.heap.size, 0, none⟩ : Addr).add 1) (Value.int .i64) fun (x43 : Int) =>
          Br (x43 == 1) (R 0 vw38) (R 13 vw38)) (R 13 vw38))))
def S13L2 (lens1 : Slc) (R : Int → World → Prop) (I9 : Int → World → Prop) (s7 : Int) (vw8 : World) : Prop :=
  Br (decide (s7 < ((lens1.len : Nat) : Int))) (0 ≤ s7 ∧ s7 < (lens1.len : Nat) ∧ Nn lens1.p fun a10 =>
    Ld vw8 (a10.add ((s7).toNat * 1)) (Value.int .i64) fun (x11 : Int) =>
    Br (decide (x11 < 0)) (R 1 vw8) (Br (decide (x11 > 15)) (R 1 vw8) (I9 (IntKind.i64.wrap (s7 + 1)) vw8))) (C29 lens1 vw8 fun r12 vw13 =>
      Nw vw13 (.cells #[.int .i64 0, .int .i64 0, .int .i64 0, .int .i64 0, .int .i64 0, .int .i64 0, .int .i64 0, .int .i64 0, .int .i64 0, .int .i64 0, .int .i64 0, .int .i64 0, .int .i64 0, .int .i64 0, .int .i64 0, .int .i64 0] 51) fun vw14 =>
      St vw14 (⟨vw13.heap.size, 0, none⟩ : Addr) (.int .i64 (r12.1)) fun vw15 =>
      St vw15 ((⟨vw13.heap.size, 0, none⟩ : Addr).add 1) (.int .i64 (r12.2.1)) fun vw16 =>
      St vw16 ((⟨vw13.heap.size, 0, none⟩ : Addr).add 2) (.int .i64 (r12.2.2.1)) fun vw17 =>
      St vw17 ((⟨vw13.heap.size, 0, none⟩ : Addr).add 3) (.int .i64 (r12.2.2.2.1)) fun vw18 =>
      St vw18 ((⟨vw13.heap.size, 0, none⟩ : Addr).add 4) (.int .i64 (r12.2.2.2.2.1)) fun vw19 =>
      St vw19 ((⟨vw13.heap.size, 0, none⟩ : Addr).add 5) (.int .i64 (r12.2.2.2.2.2.1)) fun vw20 =>
      St vw20 ((⟨vw13.heap.size, 0, none⟩ : Addr).add 6) (.int .i64 (r12.2.2.2.2.2.2.1)) fun vw21 =>
      St vw21 ((⟨vw13.heap.size, 0, none⟩ : Addr).add 7) (.int .i64 (r12.2.2.2.2.2.2.2.1)) fun vw22 =>
      St vw22 ((⟨vw13.heap.size, 0, none⟩ : Addr).add 8) (.int .i64 (r12.2.2.2.2.2.2.2.2.1)) fun vw23 =>
      St vw23 ((⟨vw13.heap.size, 0, none⟩ : Addr).add 9) (.int .i64 (r12.2.2.2.2.2.2.2.2.2.1)) fun vw24 =>
      St vw24 ((⟨vw13.heap.size, 0, none⟩ : Addr).add 10) (.int .i64 (r12.2.2.2.2.2.2.2.2.2.2.1)) fun vw25 =>
      St vw25 ((⟨vw13.heap.size, 0, none⟩ : Addr).add 11) (.int .i64 (r12.2.2.2.2.2.2.2.2.2.2.2.1)) fun vw26 =>
      St vw26 ((⟨vw13.heap.size, 0, none⟩ : Addr).add 12) (.int .i64 (r12.2.2.2.2.2.2.2.2.2.2.2.2.1)) fun vw27 =>
      St vw27 ((⟨vw13.heap.size, 0, none⟩ : Addr).add 13) (.int .i64 (r12.2.2.2.2.2.2.2.2.2.2.2.2.2.1)) fun vw28 =>
      St vw28 ((⟨vw13.heap.size, 0, none⟩ : Addr).add 14) (.int .i64 (r12.2.2.2.2.2.2.2.2.2.2.2.2.2.2.1)) fun vw29 =>
      St vw29 ((⟨vw13.heap.size, 0, none⟩ : Addr).add 15) (.int .i64 (r12.2.2.2.2.2.2.2.2.2.2.2.2.2.2.2)) fun vw30 =>
      Lp (σ := Int × Int × Int) (S13L1 vw13 R) (0, 0, 1) vw30)
/-- foliant/code.Check -/
def S13 (lens1 : Slc) (w : World) (R : Int → World → Prop) : Prop :=
  Br (decide (((lens1.len : Nat) : Int) > 288)) (R 6 w) (Lp (σ := Int) (S13L2 lens1 R) 0 w)
def pl13 : Plan := (.seq (.reg .seq) (.seq (.seq (.reg .seq) (.cond (.seq (.reg .seq) .leaf) .leaf)) (.seq (.seq (.reg .seq) (.block (.loop [(14, (.one (.int .i64)))] [0, 12, 13] (.seq (.reg .seq) (.seq (.cond .leaf .leaf) (.seq (.block (.seq (.reg .seq) (.seq (.reg .seq) (.cond (.seq (.reg .seq) .leaf) .leaf)))) (.reg .seq))))))) (.seq (.reg .seq) (.seq (.reg .seq) (.seq (.seq (.reg .seq) (.block (.loop [(6, (.one (.int .i64))), (7, (.one (.int .i64))), (8, (.one (.int .i64)))] [5] (.seq (.seq (.reg .seq) (.cond .leaf .leaf)) (.seq (.block (.seq (.reg .seq) (.reg .seq))) (.reg .seq)))))) (.seq (.seq (.reg .seq) (.cond (.seq (.reg .seq) .leaf) .leaf)) (.seq (.reg .seq) .leaf))))))))
set_option maxRecDepth 100000 in
theorem T13 (lens1 : Slc) (w : World) (R : Int → World → Prop) (h : S13 lens1 w R) : C13 lens1 w R := by
  have e : fnT Try.prog ⟨FF, MAY, (fun _ _ => False)⟩ pl13 Try.f13 [Slc.v lens1] w [(.one (.int .i64))] (fun s w => R s w) = S13 lens1 w R := by kernel_rfl
  exact (fn_calls okF okM Try.func13 (by kernel_rfl) (by kernel_rfl) (e.mpr h)).mono fun _ _ ⟨s, he, hR⟩ => ⟨s, he, hR⟩

def S28L1 (w : World) (vw2 : World) (vw3 : World) (R : (Int × Int × Int × Int × Int × Int × Int × Int × Int × Int × Int × Int × Int × Int × Int × Int) → World → Prop) (I7 : Int → World → Prop) (s5 : Int) (vw6 : World) : Prop :=
  Br (decide (s5 < 15)) (0 ≤ s5 ∧ s5 < (16 : Nat) ∧ Ld vw6.drew ((⟨vw3.heap.size, 0, none⟩ : Addr).add ((s5).toNat * 1)) (Value.int .i64) fun (x8 : Int) =>
    0 ≤ s5 ∧ s5 < (16 : Nat) ∧ Ld vw6.drew ((⟨w.heap.size, 0, none⟩ : Addr).add ((s5).toNat * 1)) (Value.int .i64) fun (x9 : Int) =>
    0 ≤ (IntKind.i64.wrap (s5 + 1)) ∧ (IntKind.i64.wrap (s5 + 1)) < (16 : Nat) ∧ St vw6.drew ((⟨vw3.heap.size, 0, none⟩ : Addr).add ((IntKind.i64.wrap (s5 + 1)).toNat * 1)) (.int .i64 (IntKind.i64.wrap (2 * (IntKind.i64.wrap (x8 + x9))))) fun vw10 =>
    I7 (IntKind.i64.wrap (s5 + 1)) vw10) (Ld vw6 (⟨vw3.heap.size, 0, none⟩ : Addr) (Value.int .i64) fun (x11 : Int) =>
    Ld vw6 ((⟨vw3.heap.size, 0, none⟩ : Addr).add 1) (Value.int .i64) fun (x12 : Int) =>
    Ld vw6 ((⟨vw3.heap.size, 0, none⟩ : Addr).add 2) (Value.int .i64) fun (x13 : Int) =>
    Ld vw6 ((⟨vw3.heap.size, 0, none⟩ : Addr).add 3) (Value.int .i64) fun (x14 : Int) =>
    Ld vw6 ((⟨vw3.heap.size, 0, none⟩ : Addr).add 4) (Value.int .i64) fun (x15 : Int) =>
    Ld vw6 ((⟨vw3.heap.size, 0, none⟩ : Addr).add 5) (Value.int .i64) fun (x16 : Int) =>
    Ld vw6 ((⟨vw3.heap.size, 0, none⟩ : Addr).add 6) (Value.int .i64) fun (x17 : Int) =>
    Ld vw6 ((⟨vw3.heap.size, 0, none⟩ : Addr).add 7) (Value.int .i64) fun (x18 : Int) =>
    Ld vw6 ((⟨vw3.heap.size, 0, none⟩ : Addr).add 8) (Value.int .i64) fun (x19 : Int) =>
    Ld vw6 ((⟨vw3.heap.size, 0, none⟩ : Addr).add 9) (Value.int .i64) fun (x20 : Int) =>
    Ld vw6 ((⟨vw3.heap.size, 0, none⟩ : Addr).add 10) (Value.int .i64) fun (x21 : Int) =>
    Ld vw6 ((⟨vw3.heap.size, 0, none⟩ : Addr).add 11) (Value.int .i64) fun (x22 : Int) =>
    Ld vw6 ((⟨vw3.heap.size, 0, none⟩ : Addr).add 12) (Value.int .i64) fun (x23 : Int) =>
    Ld vw6 ((⟨vw3.heap.size, 0, none⟩ : Addr).add 13) (Value.int .i64) fun (x24 : Int) =>
    Ld vw6 ((⟨vw3.heap.size, 0, none⟩ : Addr).add 14) (Value.int .i64) fun (x25 : Int) =>
    Ld vw6 ((⟨vw3.heap.size, 0, none⟩ : Addr).add 15) (Value.int .i64) fun (x26 : Int) =>
    St vw6 (⟨vw2.heap.size, 0, none⟩ : Addr) (.int .i64 x11) fun vw27 =>
    St vw27 ((⟨vw2.heap.size, 0, none⟩ : Addr).add 1) (.int .i64 x12) fun vw28 =>
    St vw28 ((⟨vw2.heap.size, 0, none⟩ : Addr).add 2) (.int .i64 x13) fun vw29 =>
    St vw29 ((⟨vw2.heap.size, 0, none⟩ : Addr).add 3) (.int .i64 x14) fun vw30 =>
    St vw30 ((⟨vw2.heap.size, 0, none⟩ : Addr).add 4) (.int .i64 x15) fun vw31 =>
    St vw31 ((⟨vw2.heap.size, 0, none⟩ : Addr).add 5) (.int .i64 x16) fun vw32 =>
    St vw32 ((⟨vw2.heap.size, 0, none⟩ : Addr).add 6) (.int .i64 x17) fun vw33 =>
    St vw33 ((⟨vw2.heap.size, 0, none⟩ : Addr).add 7) (.int .i64 x18) fun vw34 =>
    St vw34 ((⟨vw2.heap.size, 0, none⟩ : Addr).add 8) (.int .i64 x19) fun vw35 =>
    St vw35 ((⟨vw2.heap.size, 0, none⟩ : Addr).add 9) (.int .i64 x20) fun vw36 =>
    St vw36 ((⟨vw2.heap.size, 0, none⟩ : Addr).add 10) (.int .i64 x21) fun vw37 =>
    St vw37 ((⟨vw2.heap.size, 0, none⟩ : Addr).add 11) (.int .i64 x22) fun vw38 =>
    St vw38 ((⟨vw2.heap.size, 0, none⟩ : Addr).add 12) (.int .i64 x23) fun vw39 =>
    St vw39 ((⟨vw2.heap.size, 0, none⟩ : Addr).add 13) (.int .i64 x24) fun vw40 =>
    St vw40 ((⟨vw2.heap.size, 0, none⟩ : Addr).add 14) (.int .i64 x25) fun vw41 =>
    St vw41 ((⟨vw2.heap.size, 0, none⟩ : Addr).add 15) (.int .i64 x26) fun vw42 =>
    Ld vw42 (⟨vw2.heap.size, 0, none⟩ : Addr) (Value.int .i64) fun (x43 : Int) =>
    Ld vw42 ((⟨vw2.heap.size, 0, none⟩ : Addr).add 1) (Value.int .i64) fun (x44 : Int) =>
    Ld vw42 ((⟨vw2.heap.size, 0, none⟩ : Addr).add 2) (Value.int .i64) fun (x45 : Int) =>
    Ld vw42 ((⟨vw2.heap.size, 0, none⟩ : Addr).add 3) (Value.int .i64) fun (x46 : Int) =>
    Ld vw42 ((⟨vw2.heap.size, 0, none⟩ : Addr).add 4) (Value.int .i64) fun (x47 : Int) =>
    Ld vw42 ((⟨vw2.heap.size, 0, none⟩ : Addr).add 5) (Value.int .i64) fun (x48 : Int) =>
    Ld vw42 ((⟨vw2.heap.size, 0, none⟩ : Addr).add 6) (Value.int .i64) fun (x49 : Int) =>
    Ld vw42 ((⟨vw2.heap.size, 0, none⟩ : Addr).add 7) (Value.int .i64) fun (x50 : Int) =>
    Ld vw42 ((⟨vw2.heap.size, 0, none⟩ : Addr).add 8) (Value.int .i64) fun (x51 : Int) =>
    Ld vw42 ((⟨vw2.heap.size, 0, none⟩ : Addr).add 9) (Value.int .i64) fun (x52 : Int) =>
    Ld vw42 ((⟨vw2.heap.size, 0, none⟩ : Addr).add 10) (Value.int .i64) fun (x53 : Int) =>
    Ld vw42 ((⟨vw2.heap.size, 0, none⟩ : Addr).add 11) (Value.int .i64) fun (x54 : Int) =>
    Ld vw42 ((⟨vw2.heap.size, 0, none⟩ : Addr).add 12) (Value.int .i64) fun (x55 : Int) =>
    Ld vw42 ((⟨vw2.heap.size, 0, none⟩ : Addr).add 13) (Value.int .i64) fun (x56 : Int) =>
    Ld vw42 ((⟨vw2.heap.size, 0, none⟩ : Addr).add 14) (Value.int .i64) fun (x57 : Int) =>
    Ld vw42 ((⟨vw2.heap.size, 0, none⟩ : Addr).add 15) (Value.int .i64) fun (x58 : Int) =>
    R (x43, x44, x45, x46, x47, x48, x49, x50, x51, x52, x53, x54, x55, x56, x57, x58) vw42)
/-- foliant/code.firsts -/
def S28 (n1 : Int × Int × Int × Int × Int × Int × Int × Int × Int × Int × Int × Int × Int × Int × Int × Int) (w : World) (R : (Int × Int × Int × Int × Int × Int × Int × Int × Int × Int × Int × Int × Int × Int × Int × Int) → World → Prop) : Prop :=
  Nw w (.cells #[.int .i64 (n1.1), .int .i64 (n1.2.1), .int .i64 (n1.2.2.1), .int .i64 (n1.2.2.2.1), .int .i64 (n1.2.2.2.2.1), .int .i64 (n1.2.2.2.2.2.1), .int .i64 (n1.2.2.2.2.2.2.1), .int .i64 (n1.2.2.2.2.2.2.2.1), .int .i64 (n1.2.2.2.2.2.2.2.2.1), .int .i64 (n1.2.2.2.2.2.2.2.2.2.1), .int .i64 (n1.2.2.2.2.2.2.2.2.2.2.1), .int .i64 (n1.2.2.2.2.2.2.2.2.2.2.2.1), .int .i64 (n1.2.2.2.2.2.2.2.2.2.2.2.2.1), .int .i64 (n1.2.2.2.2.2.2.2.2.2.2.2.2.2.1), .int .i64 (n1.2.2.2.2.2.2.2.2.2.2.2.2.2.2.1), .int .i64 (n1.2.2.2.2.2.2.2.2.2.2.2.2.2.2.2)] 51) fun vw2 =>
  Nw vw2 (.cells #[.int .i64 0, .int .i64 0, .int .i64 0, .int .i64 0, .int .i64 0, .int .i64 0, .int .i64 0, .int .i64 0, .int .i64 0, .int .i64 0, .int .i64 0, .int .i64 0, .int .i64 0, .int .i64 0, .int .i64 0, .int .i64 0] 51) fun vw3 =>
  Nw vw3 (.cells #[.int .i64 0, .int .i64 0, .int .i64 0, .int .i64 0, .int .i64 0, .int .i64 0, .int .i64 0, .int .i64 0, .int .i64 0, .int .i64 0, .int .i64 0, .int .i64 0, .int .i64 0, .int .i64 0, .int .i64 0, .int .i64 0] 51) fun vw4 =>
  Lp (σ := Int) (S28L1 w vw2 vw3 R) 1 vw4
def pl28 : Plan := (.seq (.reg .seq) (.seq (.reg .seq) (.seq (.seq (.reg .seq) (.block (.loop [(4, (.one (.int .i64)))] [1, 2, 3] (.seq (.seq (.reg .seq) (.cond .leaf .leaf)) (.seq (.block (.reg (.tail 11))) (.reg .seq)))))) (.seq (.reg .seq) .leaf))))
set_option maxRecDepth 100000 in
theorem T28 (n1 : Int × Int × Int × Int × Int × Int × Int × Int × Int × Int × Int × Int × Int × Int × Int × Int) (w : World) (R : (Int × Int × Int × Int × Int × Int × Int × Int × Int × Int × Int × Int × Int × Int × Int × Int) → World → Prop) (h : S28 n1 w R) : C28 (n1.1, n1.2.1, n1.2.2.1, n1.2.2.2.1, n1.2.2.2.2.1, n1.2.2.2.2.2.1, n1.2.2.2.2.2.2.1, n1.2.2.2.2.2.2.2.1, n1.2.2.2.2.2.2.2.2.1, n1.2.2.2.2.2.2.2.2.2.1, n1.2.2.2.2.2.2.2.2.2.2.1, n1.2.2.2.2.2.2.2.2.2.2.2.1, n1.2.2.2.2.2.2.2.2.2.2.2.2.1, n1.2.2.2.2.2.2.2.2.2.2.2.2.2.1, n1.2.2.2.2.2.2.2.2.2.2.2.2.2.2.1, n1.2.2.2.2.2.2.2.2.2.2.2.2.2.2.2) w R := by
  have e : fnT Try.prog ⟨FF, MAY, (fun _ _ => False)⟩ pl28 Try.f28 [.agg #[.int .i64 (n1.1), .int .i64 (n1.2.1), .int .i64 (n1.2.2.1), .int .i64 (n1.2.2.2.1), .int .i64 (n1.2.2.2.2.1), .int .i64 (n1.2.2.2.2.2.1), .int .i64 (n1.2.2.2.2.2.2.1), .int .i64 (n1.2.2.2.2.2.2.2.1), .int .i64 (n1.2.2.2.2.2.2.2.2.1), .int .i64 (n1.2.2.2.2.2.2.2.2.2.1), .int .i64 (n1.2.2.2.2.2.2.2.2.2.2.1), .int .i64 (n1.2.2.2.2.2.2.2.2.2.2.2.1), .int .i64 (n1.2.2.2.2.2.2.2.2.2.2.2.2.1), .int .i64 (n1.2.2.2.2.2.2.2.2.2.2.2.2.2.1), .int .i64 (n1.2.2.2.2.2.2.2.2.2.2.2.2.2.2.1), .int .i64 (n1.2.2.2.2.2.2.2.2.2.2.2.2.2.2.2)]] w [(.agg [(.int .i64), (.int .i64), (.int .i64), (.int .i64), (.int .i64), (.int .i64), (.int .i64), (.int .i64), (.int .i64), (.int .i64), (.int .i64), (.int .i64), (.int .i64), (.int .i64), (.int .i64), (.int .i64)])] (fun s w => R s w) = S28 n1 w R := by kernel_rfl
  exact (fn_calls okF okM Try.func28 (by kernel_rfl) (by kernel_rfl) (e.mpr h)).mono fun _ _ ⟨s, he, hR⟩ => ⟨s, he, hR⟩

def S9L1 (lens1 : Slc) (vw9 : World) (x27 : Slc) (R : Slc → Int → World → Prop) (I31 : Int → World → Prop) (s29 : Int) (vw30 : World) : Prop :=
  Br (decide (s29 < ((lens1.len : Nat) : Int))) (0 ≤ s29 ∧ s29 < (lens1.len : Nat) ∧ Nn lens1.p fun a32 =>
    Ld vw30 (a32.add ((s29).toNat * 1)) (Value.int .i64) fun (x33 : Int) =>
    Br (decide (x33 > 0)) (0 ≤ x33 ∧ x33 < (16 : Nat) ∧ Ld vw30 ((⟨vw9.heap.size, 0, none⟩ : Addr).add ((x33).toNat * 1)) (Value.int .i64) fun (x34 : Int) =>
      0 ≤ s29 ∧ s29 < (x27.len : Nat) ∧ Nn x27.p fun a35 =>
      St vw30 (a35.add ((s29).toNat * 1)) (.int .i64 x34) fun vw36 =>
      0 ≤ x33 ∧ x33 < (16 : Nat) ∧ Ld vw36 ((⟨vw9.heap.size, 0, none⟩ : Addr).add ((x33).toNat * 1)) (Value.int .i64) fun (x37 : Int) =>
      0 ≤ x33 ∧ x33 < (16 : Nat) ∧ St vw36 ((⟨vw9.heap.size, 0, none⟩ : Addr).add ((x33).toNat * 1)) (.int .i64 (IntKind.i64.wrap (x37 + 1))) fun vw38 =>
      I31 (IntKind.i64.wrap (s29 + 1)) vw38) (I31 (IntKind.i64.wrap (s29 + 1)) vw30)) (R x27 0 vw30)
/-- foliant/code.Codes -/
def S9 (lens1 : Slc) (w : World) (R : Slc → Int → World → Prop) : Prop :=
  C13 lens1 w fun r4 vw5 =>
    Br (r4 != 0) (R (⟨none, 0, 0⟩ : Slc) r4 vw5) (C29 lens1 vw5 fun r6 vw7 =>
        C28 (r6.1, r6.2.1, r6.2.2.1, r6.2.2.2.1, r6.2.2.2.2.1, r6.2.2.2.2.2.1, r6.2.2.2.2.2.2.1, r6.2.2.2.2.2.2.2.1, r6.2.2.2.2.2.2.2.2.1, r6.2.2.2.2.2.2.2.2.2.1, r6.2.2.2.2.2.2.2.2.2.2.1, r6.2.2.2.2.2.2.2.2.2.2.2.1, r6.2.2.2.2.2.2.2.2.2.2.2.2.1, r6.2.2.2.2.2.2.2.2.2.2.2.2.2.1, r6.2.2.2.2.2.2.2.2.2.2.2.2.2.2.1, r6.2.2.2.2.2.2.2.2.2.2.2.2.2.2.2) vw7 fun r8 vw9 =>
          Nw vw9 (.cells #[.int .i64 0, .int .i64 0, .int .i64 0, .int .i64 0, .int .i64 0, .int .i64 0, .int .i64 0, .int .i64 0, .int .i64 0, .int .i64 0, .int .i64 0, .int .i64 0, .int .i64 0, .int .i64 0, .int .i64 0, .int .i64 0] 51) fun vw10 =>
          St vw10 (⟨vw9.heap.size, 0, none⟩ : Addr) (.int .i64 (r8.1)) fun vw11 =>
          St vw11 ((⟨vw9.heap.size, 0, none⟩ : Addr).add 1) (.int .i64 (r8.2.1)) fun vw12 =>
          St vw12 ((⟨vw9.heap.size, 0, none⟩ : Addr).add 2) (.int .i64 (r8.2.2.1)) fun vw13 =>
          St vw13 ((⟨vw9.heap.size, 0, none⟩ : Addr).add 3) (.int .i64 (r8.2.2.2.1)) fun vw14 =>
          St vw14 ((⟨vw9.heap.size, 0, none⟩ : Addr).add 4) (.int .i64 (r8.2.2.2.2.1)) fun vw15 =>
          St vw15 ((⟨vw9.heap.size, 0, none⟩ : Addr).add 5) (.int .i64 (r8.2.2.2.2.2.1)) fun vw16 =>
          St vw16 ((⟨vw9.heap.size, 0, none⟩ : Addr).add 6) (.int .i64 (r8.2.2.2.2.2.2.1)) fun vw17 =>
          St vw17 ((⟨vw9.heap.size, 0, none⟩ : Addr).add 7) (.int .i64 (r8.2.2.2.2.2.2.2.1)) fun vw18 =>
          St vw18 ((⟨vw9.heap.size, 0, none⟩ : Addr).add 8) (.int .i64 (r8.2.2.2.2.2.2.2.2.1)) fun vw19 =>
          St vw19 ((⟨vw9.heap.size, 0, none⟩ : Addr).add 9) (.int .i64 (r8.2.2.2.2.2.2.2.2.2.1)) fun vw20 =>
          St vw20 ((⟨vw9.heap.size, 0, none⟩ : Addr).add 10) (.int .i64 (r8.2.2.2.2.2.2.2.2.2.2.1)) fun vw21 =>
          St vw21 ((⟨vw9.heap.size, 0, none⟩ : Addr).add 11) (.int .i64 (r8.2.2.2.2.2.2.2.2.2.2.2.1)) fun vw22 =>
          St vw22 ((⟨vw9.heap.size, 0, none⟩ : Addr).add 12) (.int .i64 (r8.2.2.2.2.2.2.2.2.2.2.2.2.1)) fun vw23 =>
          St vw23 ((⟨vw9.heap.size, 0, none⟩ : Addr).add 13) (.int .i64 (r8.2.2.2.2.2.2.2.2.2.2.2.2.2.1)) fun vw24 =>
          St vw24 ((⟨vw9.heap.size, 0, none⟩ : Addr).add 14) (.int .i64 (r8.2.2.2.2.2.2.2.2.2.2.2.2.2.2.1)) fun vw25 =>
          St vw25 ((⟨vw9.heap.size, 0, none⟩ : Addr).add 15) (.int .i64 (r8.2.2.2.2.2.2.2.2.2.2.2.2.2.2.2)) fun vw26 =>
          Rn Try.prog (Instr.makeSlice 22 (.int .i64 ((lens1.len : Nat) : Int)) (.int .i64 ((lens1.len : Nat) : Int))) vw26 Slc.v fun (x27 : Slc) vw28 =>
          Lp (σ := Int) (S9L1 lens1 vw9 x27 R) 0 vw28)
def pl9 : Plan := (.seq (.reg .seq) (.seq (.seq (.reg .seq) (.seq (.reg .seq) (.cond (.seq (.reg .seq) .leaf) .leaf))) (.seq (.reg .seq) (.seq (.reg .seq) (.seq (.seq (.reg .seq) (.block (.loop [(22, (.one (.int .i64)))] [5, 6, 20, 21] (.seq (.reg .seq) (.seq (.cond .leaf .leaf) (.seq (.block (.seq (.reg .seq) (.seq (.reg .seq) (.cond (.seq (.reg .seq) (.reg .seq)) .leaf)))) (.reg .seq))))))) (.seq (.reg .seq) .leaf))))))
set_option maxRecDepth 100000 in
theorem T9 (lens1 : Slc) (w : World) (R : Slc → Int → World → Prop) (h : S9 lens1 w R) : C9 lens1 w R := by
  have e : fnT Try.prog ⟨FF, MAY, (fun _ _ => False)⟩ pl9 Try.f9 [Slc.v lens1] w [(.one .slc), (.one (.int .i64))] (fun s w => R s.1 s.2 w) = S9 lens1 w R := by kernel_rfl
  exact (fn_calls okF okM Try.func9 (by kernel_rfl) (by kernel_rfl) (e.mpr h)).mono fun _ _ ⟨s, he, hR⟩ => ⟨s.1, s.2, he, hR⟩

/-- foliant/foliantref10.bits -/
def S31 (n1 : Int) (w : World) (R : Int → World → Prop) : Prop :=
  0 ≤ (IntKind.u64.wrap n1) ∧ R (IntKind.i64.wrap (1 * 2 ^ (min (IntKind.u64.wrap n1).toNat 64))) w
def pl31 : Plan := (.seq (.reg .seq) (.seq (.reg .seq) .leaf))
set_option maxRecDepth 100000 in
theorem T31 (n1 : Int) (w : World) (R : Int → World → Prop) (h : S31 n1 w R) : C31 n1 w R := by
  have e : fnT Try.prog ⟨FF, MAY, (fun _ _ => False)⟩ pl31 Try.f31 [.int .i64 n1] w [(.one (.int .i64))] (fun s w => R s w) = S31 n1 w R := by kernel_rfl
  exact (fn_calls okF okM Try.func31 (by kernel_rfl) (by kernel_rfl) (e.mpr h)).mono fun _ _ ⟨s, he, hR⟩ => ⟨s, he, hR⟩

def S32L1 (lens1 : Slc) (R : Int → World → Prop) (I4 : (Int × Int) → World → Prop) (s2 : Int × Int) (vw3 : World) : Prop :=
  Br (decide (s2.2 < ((lens1.len : Nat) : Int))) (0 ≤ s2.2 ∧ s2.2 < (lens1.len : Nat) ∧ Nn lens1.p fun a5 =>
    Ld vw3 (a5.add ((s2.2).toNat * 1)) (Value.int .i64) fun (x6 : Int) =>
    Br (x6 != 0) (I4 (IntKind.i64.wrap (s2.1 + 1), IntKind.i64.wrap (s2.2 + 1)) vw3) (I4 (s2.1, IntKind.i64.wrap (s2.2 + 1)) vw3)) (R s2.1 vw3)
/-- foliant/foliantref10.used -/
def S32 (lens1 : Slc) (w : World) (R : Int → World → Prop) : Prop :=
  Lp (σ := Int × Int) (S32L1 lens1 R) (0, 0) w
def pl32 : Plan := (.seq (.reg .seq) (.seq (.reg .seq) (.seq (.seq (.reg .seq) (.block (.loop [(3, (.one (.int .i64))), (4, (.one (.int .i64)))] [0] (.seq (.seq (.reg .seq) (.cond .leaf .leaf)) (.seq (.block (.seq (.reg .seq) (.cond (.reg .seq) .leaf))) (.reg .seq)))))) (.seq (.reg .seq) .leaf))))
set_option maxRecDepth 100000 in
theorem T32 (lens1 : Slc) (w : World) (R : Int → World → Prop) (h : S32 lens1 w R) : C32 lens1 w R := by
  have e : fnT Try.prog ⟨FF, MAY, (fun _ _ => False)⟩ pl32 Try.f32 [Slc.v lens1] w [(.one (.int .i64))] (fun s w => R s w) = S32 lens1 w R := by kernel_rfl
  exact (fn_calls okF okM Try.func32 (by kernel_rfl) (by kernel_rfl) (e.mpr h)).mono fun _ _ ⟨s, he, hR⟩ => ⟨s, he, hR⟩

def S14L1 (lens1 : Slc) (R : Int → World → Prop) (I23 : (Int × Int × Int) → World → Prop) (s21 : Int × Int × Int) (vw22 : World) : Prop :=
  Br (decide (s21.2.2 < ((lens1.len : Nat) : Int))) (0 ≤ s21.2.2 ∧ s21.2.2 < (lens1.len : Nat) ∧ Nn lens1.p fun a24 =>
    Ld vw22 (a24.add ((s21.2.2).toNat * 1)) (Value.int .i64) fun (x25 : Int) =>
    Br (decide (x25 < 0)) (R 1 vw22) (0 ≤ s21.2.2 ∧ s21.2.2 < (lens1.len : Nat) ∧ Nn lens1.p fun a26 =>
      Ld vw22 (a26.add ((s21.2.2).toNat * 1)) (Value.int .i64) fun (x27 : Int) =>
      Br (decide (x27 > 15)) (R 1 vw22) (0 ≤ s21.2.2 ∧ s21.2.2 < (lens1.len : Nat) ∧ Nn lens1.p fun a28 =>
        Ld vw22 (a28.add ((s21.2.2).toNat * 1)) (Value.int .i64) fun (x29 : Int) =>
        Br (decide (x29 > 0)) (0 ≤ s21.2.2 ∧ s21.2.2 < (lens1.len : Nat) ∧ Nn lens1.p fun a30 =>
          Ld vw22 (a30.add ((s21.2.2).toNat * 1)) (Value.int .i64) fun (x31 : Int) =>
          C31 (IntKind.i64.wrap (15 - x31)) vw22 fun r32 vw33 =>
            0 ≤ s21.2.2 ∧ s21.2.2 < (lens1.len : Nat) ∧ Nn lens1.p fun a34 =>
            Ld vw33 (a34.add ((s21.2.2).toNat * 1)) (Value.int .i64) fun (x35 : Int) =>
            I23 (IntKind.i64.wrap (s21.1 + r32), (if x35 > s21.2.1 then x35 else s21.2.1), IntKind.i64.wrap (s21.2.2 + 1)) vw33) (I23 (s21.1, s21.2.1, IntKind.i64.wrap (s21.2.2 + 1)) vw22)))) (C31 15 vw22 fun r36 vw37 =>
      Br (s21.1 == r36) (R 0 vw37) (Br (s21.1 == 0) (R 0 vw37) (C32 lens1 vw37 fun r38 vw39 =>
            Br (r38 == 1) (Br (s21.2.1 == 1) (R 0 vw39) (R 13 vw39)) (R 13 vw39))))
/-- foliant/foliantref10.Check -/
def S14 (lens1 : Slc) (w : World) (R : Int → World → Prop) : Prop :=
  Br (decide (((lens1.len : Nat) : Int) > 288)) (R 6 w) (Lp (σ := Int × Int × Int) (S14L1 lens1 R) (0, 0, 0) w)
def pl14 : Plan := (.seq (.reg .seq) (.seq (.seq (.reg .seq) (.cond (.seq (.reg .seq) .leaf) .leaf)) (.seq (.reg .seq) (.seq (.seq (.reg .seq) (.block (.loop [(3, (.one (.int .i64))), (4, (.one (.int .i64))), (5, (.one (.int .i64)))] [0] (.seq (.seq (.reg .seq) (.cond .leaf .leaf)) (.seq (.block (.seq (.seq (.reg .seq) (.cond (.seq (.reg .seq) .leaf) .leaf)) (.seq (.reg .seq) (.cond (.seq (.reg .seq) (.reg .seq)) .leaf)))) (.reg .seq)))))) (.seq (.seq (.reg .seq) (.cond (.seq (.reg .seq) .leaf) .leaf)) (.seq (.reg .seq) .leaf))))))
set_option maxRecDepth 100000 in
theorem T14 (lens1 : Slc) (w : World) (R : Int → World → Prop) (h : S14 lens1 w R) : C14 lens1 w R := by
  have e : fnT Try.prog ⟨FF, MAY, (fun _ _ => False)⟩ pl14 Try.f14 [Slc.v lens1] w [(.one (.int .i64))] (fun s w => R s w) = S14 lens1 w R := by kernel_rfl
  exact (fn_calls okF okM Try.func14 (by kernel_rfl) (by kernel_rfl) (e.mpr h)).mono fun _ _ ⟨s, he, hR⟩ => ⟨s, he, hR⟩

def S10L1 (lens1 : Slc) (x6 : Slc) (s8 : Int × Int) (I10 : (Int × Int) → World → Prop) (I13 : (Int × Int) → World → Prop) (s11 : Int × Int) (vw12 : World) : Prop :=
  Br (decide (s11.2 < ((lens1.len : Nat) : Int))) (0 ≤ s11.2 ∧ s11.2 < (lens1.len : Nat) ∧ Nn lens1.p fun a14 =>
    Ld vw12 (a14.add ((s11.2).toNat * 1)) (Value.int .i64) fun (x15 : Int) =>
    Br (x15 == s8.2) (0 ≤ s11.2 ∧ s11.2 < (x6.len : Nat) ∧ Nn x6.p fun a16 =>
      St vw12 (a16.add ((s11.2).toNat * 1)) (.int .i64 (s11.1)) fun vw17 =>
      I13 (IntKind.i64.wrap (s11.1 + 1), IntKind.i64.wrap (s11.2 + 1)) vw17) (I13 (s11.1, IntKind.i64.wrap (s11.2 + 1)) vw12)) (I10 (IntKind.i64.wrap (2 * s11.1), IntKind.i64.wrap (s8.2 + 1)) vw12)
def S10L2 (lens1 : Slc) (x6 : Slc) (R : Slc → Int → World → Prop) (I10 : (Int × Int) → World → Prop) (s8 : Int × Int) (vw9 : World) : Prop :=
  Br (decide (s8.2 ≤ 15)) (Lp (σ := Int × Int) (S10L1 lens1 x6 s8 I10) (s8.1, 0) vw9) (R x6 0 vw9)
/-- foliant/foliantref10.Codes -/
def S10 (lens1 : Slc) (w : World) (R : Slc → Int → World → Prop) : Prop :=
  C14 lens1 w fun r4 vw5 =>
    Br (r4 != 0) (R (⟨none, 0, 0⟩ : Slc) r4 vw5) (Rn Try.prog (Instr.makeSlice 22 (.int .i64 ((lens1.len : Nat) : Int)) (.int .i64 ((lens1.len : Nat) : Int))) vw5 Slc.v fun (x6 : Slc) vw7 =>
      Lp (σ := Int × Int) (S10L2 lens1 x6 R) (0, 1) vw7)
def pl10 : Plan := (.seq (.reg .seq) (.seq (.seq (.reg .seq) (.seq (.reg .seq) (.cond (.seq (.reg .seq) .leaf) .leaf))) (.seq (.reg .seq) (.seq (.reg .seq) (.seq (.seq (.reg .seq) (.block (.loop [(6, (.one (.int .i64))), (7, (.one (.int .i64)))] [0, 5] (.seq (.seq (.reg .seq) (.cond .leaf .leaf)) (.seq (.block (.seq (.seq (.reg .seq) (.block (.loop [(6, (.one (.int .i64))), (8, (.one (.int .i64)))] [0, 5, 7] (.seq (.seq (.reg .seq) (.cond .leaf .leaf)) (.seq (.block (.seq (.reg .seq) (.cond (.seq (.reg .seq) (.reg .seq)) .leaf))) (.reg .seq)))))) (.reg .seq))) (.reg .seq)))))) (.seq (.reg .seq) .leaf))))))
set_option maxRecDepth 100000 in
theorem T10 (lens1 : Slc) (w : World) (R : Slc → Int → World → Prop) (h : S10 lens1 w R) : C10 lens1 w R := by
  have e : fnT Try.prog ⟨FF, MAY, (fun _ _ => False)⟩ pl10 Try.f10 [Slc.v lens1] w [(.one .slc), (.one (.int .i64))] (fun s w => R s.1 s.2 w) = S10 lens1 w R := by kernel_rfl
  exact (fn_calls okF okM Try.func10 (by kernel_rfl) (by kernel_rfl) (e.mpr h)).mono fun _ _ ⟨s, he, hR⟩ => ⟨s.1, s.2, he, hR⟩

/-- slices.Clone[[]int,int] -/
def S30 (s1 : Slc) (w : World) (R : Slc → World → Prop) : Prop :=
  Br s1.p.isNone (R (⟨none, 0, 0⟩ : Slc) w) (Nw w (.cells #[] 3) fun vw2 =>
    Rn Try.prog (Builtin.append_ #[22, 22] 22 #[Slc.v ((⟨some ⟨w.heap.size, 0, none⟩, 0, 0⟩ : Slc)), Slc.v s1]) vw2 Slc.v fun (x3 : Slc) vw4 =>
    R x3 vw4)
def pl30 : Plan := (.seq (.reg .seq) (.seq (.seq (.reg .seq) (.cond (.seq (.reg .seq) .leaf) .leaf)) (.seq (.reg .seq) .leaf)))
set_option maxRecDepth 100000 in
theorem T30 (s1 : Slc) (w : World) (R : Slc → World → Prop) (h : S30 s1 w R) : C30 s1 w R := by
  have e : fnT Try.prog ⟨FF, MAY, (fun _ _ => False)⟩ pl30 Try.f30 [Slc.v s1] w [(.one .slc)] (fun s w => R s w) = S30 s1 w R := by kernel_rfl
  exact (fn_calls okF okM Try.func30 (by kernel_rfl) (by kernel_rfl) (e.mpr h)).mono fun _ _ ⟨s, he, hR⟩ => ⟨s, he, hR⟩

def S11L1 (lens1 : Slc) (vw8 : World) (s46 : Int) (I48 : Int → World → Prop) (I51 : Int → World → Prop) (s49 : Int) (vw50 : World) : Prop :=
  Br (decide (s49 < ((lens1.len : Nat) : Int))) (0 ≤ s49 ∧ s49 < (lens1.len : Nat) ∧ Nn lens1.p fun a52 =>
    Ld vw50 (a52.add ((s49).toNat * 1)) (Value.int .i64) fun (x53 : Int) =>
    Br (x53 == s46) (Nn (some (⟨vw8.heap.size, 0, none⟩ : Addr)) fun a54 =>
      Ld vw50 (a54.add 34) Slc.v fun (x55 : Slc) =>
      Nw vw50 (.cells #[.int .i64 s49] 3) fun vw56 =>
      Rn Try.prog (Builtin.append_ #[22, 22] 22 #[Slc.v x55, Slc.v ((⟨some ⟨vw50.heap.size, 0, none⟩, 1, 1⟩ : Slc))]) vw56 Slc.v fun (x57 : Slc) vw58 =>
      Nn (some (⟨vw8.heap.size, 0, none⟩ : Addr)) fun a59 =>
      St vw58 (a59.add 34) (Slc.v x57) fun vw60 =>
      I51 (IntKind.i64.wrap (s49 + 1)) vw60) (I51 (IntKind.i64.wrap (s49 + 1)) vw50)) (I48 (IntKind.i64.wrap (s46 + 1)) vw50)
def S11L2 (lens1 : Slc) (vw8 : World) (R : Option Addr → Int → World → Prop) (I48 : Int → World → Prop) (s46 : Int) (vw47 : World) : Prop :=
  Br (decide (s46 ≤ 15)) (Lp (σ := Int) (S11L1 lens1 vw8 s46 I48) 0 vw47) (R (some (⟨vw8.heap.size, 0, none⟩ : Addr)) 0 vw47)
/-- foliant/code.New -/
def S11 (lens1 : Slc) (w : World) (R : Option Addr → Int → World → Prop) : Prop :=
  C9 lens1 w fun r2 r3 vw4 =>
    Br (r3 != 0) (R none r3 vw4) (C30 lens1 vw4 fun r5 vw6 =>
        C29 lens1 vw6 fun r7 vw8 =>
          Nw vw8 (.cells #[Slc.v r5, Slc.v r2, .int .i64 (r7.1), .int .i64 (r7.2.1), .int .i64 (r7.2.2.1), .int .i64 (r7.2.2.2.1), .int .i64 (r7.2.2.2.2.1), .int .i64 (r7.2.2.2.2.2.1), .int .i64 (r7.2.2.2.2.2.2.1), .int .i64 (r7.2.2.2.2.2.2.2.1), .int .i64 (r7.2.2.2.2.2.2.2.2.1), .int .i64 (r7.2.2.2.2.2.2.2.2.2.1), .int .i64 (r7.2.2.2.2.2.2.2.2.2.2.1), .int .i64 (r7.2.2.2.2.2.2.2.2.2.2.2.1), .int .i64 (r7.2.2.2.2.2.2.2.2.2.2.2.2.1), .int .i64 (r7.2.2.2.2.2.2.2.2.2.2.2.2.2.1), .int .i64 (r7.2.2.2.2.2.2.2.2.2.2.2.2.2.2.1), .int .i64 (r7.2.2.2.2.2.2.2.2.2.2.2.2.2.2.2), .int .i64 0, .int .i64 0, .int .i64 0, .int .i64 0, .int .i64 0, .int .i64 0, .int .i64 0, .int .i64 0, .int .i64 0, .int .i64 0, .int .i64 0, .int .i64 0, .int .i64 0, .int .i64 0, .int .i64 0, .int .i64 0, Slc.v ((⟨none, 0, 0⟩ : Slc))] 56) fun vw9 =>
          Nn (some (⟨vw8.heap.size, 0, none⟩ : Addr)) fun a10 =>
          Ld vw9 (a10.add 2) (Value.int .i64) fun (x11 : Int) =>
          Ld vw9 ((a10.add 2).add 1) (Value.int .i64) fun (x12 : Int) =>
          Ld vw9 ((a10.add 2).add 2) (Value.int .i64) fun (x13 : Int) =>
          Ld vw9 ((a10.add 2).add 3) (Value.int .i64) fun (x14 : Int) =>
          Ld vw9 ((a10.add 2).add 4) (Value.int .i64) fun (x15 : Int) =>
          Ld vw9 ((a10.add 2).add 5) (Value.int .i64) fun (x16 : Int) =>
          Ld vw9 ((a10.add 2).add 6) (Value.int .i64) fun (x17 : Int) =>
          Ld vw9 ((a10.add 2).add 7) (Value.int .i64) fun (x18 : Int) =>
          Ld vw9 ((a10.add 2).add 8) (Value.int .i64) fun (x19 : Int) =>
          Ld vw9 ((a10.add 2).add 9) (Value.int .i64) fun (x20 : Int) =>
          Ld vw9 ((a10.add 2).add 10) (Value.int .i64) fun (x21 : Int) =>
          Ld vw9 ((a10.add 2).add 11) (Value.int .i64) fun (x22 : Int) =>
          Ld vw9 ((a10.add 2).add 12) (Value.int .i64) fun (x23 : Int) =>
          Ld vw9 ((a10.add 2).add 13) (Value.int .i64) fun (x24 : Int) =>
          Ld vw9 ((a10.add 2).add 14) (Value.int .i64) fun (x25 : Int) =>
          Ld vw9 ((a10.add 2).add 15) (Value.int .i64) fun (x26 : Int) =>
          C28 (x11, x12, x13, x14, x15, x16, x17, x18, x19, x20, x21, x22, x23, x24, x25, x26) vw9 fun r27 vw28 =>
            Nn (some (⟨vw8.heap.size, 0, none⟩ : Addr)) fun a29 =>
            St vw28 (a29.add 18) (.int .i64 (r27.1)) fun vw30 =>
            St vw30 ((a29.add 18).add 1) (.int .i64 (r27.2.1)) fun vw31 =>
            St vw31 ((a29.add 18).add 2) (.int .i64 (r27.2.2.1)) fun vw32 =>
            St vw32 ((a29.add 18).add 3) (.int .i64 (r27.2.2.2.1)) fun vw33 =>
            St vw33 ((a29.add 18).add 4) (.int .i64 (r27.2.2.2.2.1)) fun vw34 =>
            St vw34 ((a29.add 18).add 5) (.int .i64 (r27.2.2.2.2.2.1)) fun vw35 =>
            St vw35 ((a29.add 18).add 6) (.int .i64 (r27.2.2.2.2.2.2.1)) fun vw36 =>
            St vw36 ((a29.add 18).add 7) (.int .i64 (r27.2.2.2.2.2.2.2.1)) fun vw37 =>
            St vw37 ((a29.add 18).add 8) (.int .i64 (r27.2.2.2.2.2.2.2.2.1)) fun vw38 =>
            St vw38 ((a29.add 18).add 9) (.int .i64 (r27.2.2.2.2.2.2.2.2.2.1)) fun vw39 =>
            St vw39 ((a29.add 18).add 10) (.int .i64 (r27.2.2.2.2.2.2.2.2.2.2.1)) fun vw40 =>
            St vw40 ((a29.add 18).add 11) (.int .i64 (r27.2.2.2.2.2.2.2.2.2.2.2.1)) fun vw41 =>
            St vw41 ((a29.add 18).add 12) (.int .i64 (r27.2.2.2.2.2.2.2.2.2.2.2.2.1)) fun vw42 =>
            St vw42 ((a29.add 18).add 13) (.int .i64 (r27.2.2.2.2.2.2.2.2.2.2.2.2.2.1)) fun vw43 =>
            St vw43 ((a29.add 18).add 14) (.int .i64 (r27.2.2.2.2.2.2.2.2.2.2.2.2.2.2.1)) fun vw44 =>
            St vw44 ((a29.add 18).add 15) (.int .i64 (r27.2.2.2.2.2.2.2.2.2.2.2.2.2.2.2)) fun vw45 =>
            Lp (σ := Int) (S11L2 lens1 vw8 R) 1 vw45)
def pl11 : Plan := (.seq (.reg .seq) (.seq (.reg .seq) (.seq (.seq (.reg .seq) (.cond (.seq (.reg .seq) .leaf) .leaf)) (.seq (.reg .seq) (.seq (.reg .seq) (.seq (.seq (.reg .seq) (.block (.loop [(7, (.one (.int .i64)))] [0, 6] (.seq (.seq (.reg .seq) (.cond .leaf .leaf)) (.seq (.block (.seq (.reg .seq) (.block (.loop [(39, (.one (.int .i64)))] [0, 6, 7, 37, 38] (.seq (.reg .seq) (.seq (.cond .leaf .leaf) (.seq (.block (.seq (.reg .seq) (.seq (.reg .seq) (.cond (.reg .seq) .leaf)))) (.reg .seq)))))))) (.reg .seq)))))) (.seq (.reg .seq) .leaf)))))))
set_option maxRecDepth 100000 in
theorem T11 (lens1 : Slc) (w : World) (R : Option Addr → Int → World → Prop) (h : S11 lens1 w R) : C11 lens1 w R := by
  have e : fnT Try.prog ⟨FF, MAY, (fun _ _ => False)⟩ pl11 Try.f11 [Slc.v lens1] w [(.one .ptr), (.one (.int .i64))] (fun s w => R s.1 s.2 w) = S11 lens1 w R := by kernel_rfl
  exact (fn_calls okF okM Try.func11 (by kernel_rfl) (by kernel_rfl) (e.mpr h)).mono fun _ _ ⟨s, he, hR⟩ => ⟨s.1, s.2, he, hR⟩

def S12L1 (a1 : Slc) (b2 : Slc) (R : Bool → World → Prop) (I5 : Int → World → Prop) (s3 : Int) (vw4 : World) : Prop :=
  Br (decide (s3 < ((a1.len : Nat) : Int))) (Br (decide (s3 < ((b2.len : Nat) : Int))) (0 ≤ s3 ∧ s3 < (a1.len : Nat) ∧ Nn a1.p fun a6 =>
      Ld vw4.drew (a6.add ((s3).toNat * 1)) (Value.int .i64) fun (x7 : Int) =>
      0 ≤ s3 ∧ s3 < (b2.len : Nat) ∧ Nn b2.p fun a8 =>
      Ld vw4.drew (a8.add ((s3).toNat * 1)) (Value.int .i64) fun (x9 : Int) =>
      Br (x7 != x9) (R false vw4.drew) (I5 (IntKind.i64.wrap (s3 + 1)) vw4.drew)) (R true vw4)) (R true vw4)
/-- foliant/foliantref10.Same -/
def S12 (a1 : Slc) (b2 : Slc) (w : World) (R : Bool → World → Prop) : Prop :=
  Br (((a1.len : Nat) : Int) != ((b2.len : Nat) : Int)) (R false w) (Lp (σ := Int) (S12L1 a1 b2 R) 0 w)
def pl12 : Plan := (.seq (.reg .seq) (.seq (.seq (.reg .seq) (.cond (.seq (.reg .seq) .leaf) .leaf)) (.seq (.seq (.reg .seq) (.block (.loop [(5, (.one (.int .i64)))] [0, 1] (.seq (.seq (.reg .seq) (.cond .leaf .leaf)) (.seq (.block (.seq (.reg .still) (.cond (.seq (.reg .seq) .leaf) .leaf))) (.reg .seq)))))) (.seq (.reg .seq) .leaf))))
set_option maxRecDepth 100000 in
theorem T12 (a1 : Slc) (b2 : Slc) (w : World) (R : Bool → World → Prop) (h : S12 a1 b2 w R) : C12 a1 b2 w R := by
  have e : fnT Try.prog ⟨FF, MAY, (fun _ _ => False)⟩ pl12 Try.f12 [Slc.v a1, Slc.v b2] w [(.one .bool)] (fun s w => R s w) = S12 a1 b2 w R := by kernel_rfl
  exact (fn_calls okF okM Try.func12 (by kernel_rfl) (by kernel_rfl) (e.mpr h)).mono fun _ _ ⟨s, he, hR⟩ => ⟨s, he, hR⟩

def S15L1 (lens1 : Slc) (counts2 : Slc) (x3 : Int) (R : Int → World → Prop) (I6 : (Int × Int) → World → Prop) (s4 : Int × Int) (vw5 : World) : Prop :=
  Br (decide (s4.2 < x3)) (0 ≤ s4.2 ∧ s4.2 < (lens1.len : Nat) ∧ Nn lens1.p fun a7 =>
    Ld vw5 (a7.add ((s4.2).toNat * 1)) (Value.int .i64) fun (x8 : Int) =>
    Br (decide (x8 ≥ 0)) (0 ≤ s4.2 ∧ s4.2 < (lens1.len : Nat) ∧ Nn lens1.p fun a9 =>
      Ld vw5 (a9.add ((s4.2).toNat * 1)) (Value.int .i64) fun (x10 : Int) =>
      Br (decide (x10 ≤ 15)) (0 ≤ s4.2 ∧ s4.2 < (counts2.len : Nat) ∧ Nn counts2.p fun a11 =>
        Ld vw5 (a11.add ((s4.2).toNat * 1)) (Value.int .i64) fun (x12 : Int) =>
        Br (decide (x12 ≥ 0)) (0 ≤ s4.2 ∧ s4.2 < (counts2.len : Nat) ∧ Nn counts2.p fun a13 =>
          Ld vw5 (a13.add ((s4.2).toNat * 1)) (Value.int .i64) fun (x14 : Int) =>
          Br (decide (x14 ≤ 2147483647)) (0 ≤ s4.2 ∧ s4.2 < (lens1.len : Nat) ∧ Nn lens1.p fun a15 =>
            Ld vw5.drew (a15.add ((s4.2).toNat * 1)) (Value.int .i64) fun (x16 : Int) =>
            0 ≤ s4.2 ∧ s4.2 < (counts2.len : Nat) ∧ Nn counts2.p fun a17 =>
            Ld vw5.drew (a17.add ((s4.2).toNat * 1)) (Value.int .i64) fun (x18 : Int) =>
            I6 (IntKind.i64.wrap (s4.1 + (IntKind.i64.wrap (x16 * x18))), IntKind.i64.wrap (s4.2 + 1)) vw5.drew) (I6 (s4.1, IntKind.i64.wrap (s4.2 + 1)) vw5)) (I6 (s4.1, IntKind.i64.wrap (s4.2 + 1)) vw5)) (I6 (s4.1, IntKind.i64.wrap (s4.2 + 1)) vw5)) (I6 (s4.1, IntKind.i64.wrap (s4.2 + 1)) vw5)) (R s4.1 vw5)
/-- foliant/code.Cost -/
def S15 (lens1 : Slc) (counts2 : Slc) (w : World) (R : Int → World → Prop) : Prop :=
  Lt ((if ((counts2.len : Nat) : Int) < ((lens1.len : Nat) : Int) then ((counts2.len : Nat) : Int) else ((lens1.len : Nat) : Int))) fun (x3 : Int) =>
  Lp (σ := Int × Int) (S15L1 lens1 counts2 x3 R) (0, 0) w
def pl15 : Plan := (.seq (.reg .seq) (.seq (.reg .seq) (.seq (.seq (.reg .seq) (.block (.loop [(5, (.one (.int .i64))), (12, (.one (.int .i64)))] [0, 1, 11] (.seq (.reg .seq) (.seq (.cond .leaf .leaf) (.seq (.block (.seq (.reg .seq) (.seq (.reg .seq) (.cond (.reg .still) .leaf)))) (.reg .seq))))))) (.seq (.reg .seq) .leaf))))
set_option maxRecDepth 100000 in
theorem T15 (lens1 : Slc) (counts2 : Slc) (w : World) (R : Int → World → Prop) (h : S15 lens1 counts2 w R) : C15 lens1 counts2 w R := by
  have e : fnT Try.prog ⟨FF, MAY, (fun _ _ => False)⟩ pl15 Try.f15 [Slc.v lens1, Slc.v counts2] w [(.one (.int .i64))] (fun s w => R s w) = S15 lens1 counts2 w R := by kernel_rfl
  exact (fn_calls okF okM Try.func15 (by kernel_rfl) (by kernel_rfl) (e.mpr h)).mono fun _ _ ⟨s, he, hR⟩ => ⟨s, he, hR⟩

def S16L1 (lens1 : Slc) (counts2 : Slc) (R : Int → World → Prop) (I5 : (Int × Int) → World → Prop) (s3 : Int × Int) (vw4 : World) : Prop :=
  Br (decide (s3.2 < ((lens1.len : Nat) : Int))) (Br (decide (s3.2 < ((counts2.len : Nat) : Int))) (0 ≤ s3.2 ∧ s3.2 < (lens1.len : Nat) ∧ Nn lens1.p fun a6 =>
      Ld vw4 (a6.add ((s3.2).toNat * 1)) (Value.int .i64) fun (x7 : Int) =>
      Br (decide (x7 ≥ 0)) (0 ≤ s3.2 ∧ s3.2 < (lens1.len : Nat) ∧ Nn lens1.p fun a8 =>
        Ld vw4 (a8.add ((s3.2).toNat * 1)) (Value.int .i64) fun (x9 : Int) =>
        Br (decide (x9 ≤ 15)) (0 ≤ s3.2 ∧ s3.2 < (counts2.len : Nat) ∧ Nn counts2.p fun a10 =>
          Ld vw4 (a10.add ((s3.2).toNat * 1)) (Value.int .i64) fun (x11 : Int) =>
          Br (decide (x11 ≥ 0)) (0 ≤ s3.2 ∧ s3.2 < (counts2.len : Nat) ∧ Nn counts2.p fun a12 =>
            Ld vw4 (a12.add ((s3.2).toNat * 1)) (Value.int .i64) fun (x13 : Int) =>
            Br (decide (x13 ≤ 2147483647)) (0 ≤ s3.2 ∧ s3.2 < (lens1.len : Nat) ∧ Nn lens1.p fun a14 =>
              Ld vw4.drew (a14.add ((s3.2).toNat * 1)) (Value.int .i64) fun (x15 : Int) =>
              0 ≤ s3.2 ∧ s3.2 < (counts2.len : Nat) ∧ Nn counts2.p fun a16 =>
              Ld vw4.drew (a16.add ((s3.2).toNat * 1)) (Value.int .i64) fun (x17 : Int) =>
              I5 (IntKind.i64.wrap (s3.1 + (IntKind.i64.wrap (x15 * x17))), IntKind.i64.wrap (s3.2 + 1)) vw4.drew) (I5 (s3.1, IntKind.i64.wrap (s3.2 + 1)) vw4)) (I5 (s3.1, IntKind.i64.wrap (s3.2 + 1)) vw4)) (I5 (s3.1, IntKind.i64.wrap (s3.2 + 1)) vw4)) (I5 (s3.1, IntKind.i64.wrap (s3.2 + 1)) vw4)) (R s3.1 vw4)) (R s3.1 vw4)
/-- foliant/foliantref10.Cost -/
def S16 (lens1 : Slc) (counts2 : Slc) (w : World) (R : Int → World → Prop) : Prop :=
  Lp (σ := Int × Int) (S16L1 lens1 counts2 R) (0, 0) w
def pl16 : Plan := (.seq (.reg .seq) (.seq (.reg .seq) (.seq (.seq (.reg .seq) (.block (.loop [(5, (.one (.int .i64))), (6, (.one (.int .i64)))] [0, 1] (.seq (.seq (.reg .seq) (.cond .leaf .leaf)) (.seq (.block (.seq (.reg .seq) (.cond (.reg .still) .leaf))) (.reg .seq)))))) (.seq (.reg .seq) .leaf))))
set_option maxRecDepth 100000 in
theorem T16 (lens1 : Slc) (counts2 : Slc) (w : World) (R : Int → World → Prop) (h : S16 lens1 counts2 w R) : C16 lens1 counts2 w R := by
  have e : fnT Try.prog ⟨FF, MAY, (fun _ _ => False)⟩ pl16 Try.f16 [Slc.v lens1, Slc.v counts2] w [(.one (.int .i64))] (fun s w => R s w) = S16 lens1 counts2 w R := by kernel_rfl
  exact (fn_calls okF okM Try.func16 (by kernel_rfl) (by kernel_rfl) (e.mpr h)).mono fun _ _ ⟨s, he, hR⟩ => ⟨s, he, hR⟩

def S18L1 (counts1 : Slc) (most2 : Int) (R : Int → World → Prop) (I18 : (Int × Int) → World → Prop) (s16 : Int × Int) (vw17 : World) : Prop :=
  Br (decide (s16.2 < ((counts1.len : Nat) : Int))) (0 ≤ s16.2 ∧ s16.2 < (counts1.len : Nat) ∧ Nn counts1.p fun a19 =>
    Ld vw17 (a19.add ((s16.2).toNat * 1)) (Value.int .i64) fun (x20 : Int) =>
    Br (decide (x20 < 0)) (R 1 vw17) (0 ≤ s16.2 ∧ s16.2 < (counts1.len : Nat) ∧ Nn counts1.p fun a21 =>
      Ld vw17 (a21.add ((s16.2).toNat * 1)) (Value.int .i64) fun (x22 : Int) =>
      Br (decide (x22 > 2147483647)) (R 1 vw17) (0 ≤ s16.2 ∧ s16.2 < (counts1.len : Nat) ∧ Nn counts1.p fun a23 =>
        Ld vw17 (a23.add ((s16.2).toNat * 1)) (Value.int .i64) fun (x24 : Int) =>
        Br (decide (x24 > 0)) (I18 (IntKind.i64.wrap (s16.1 + 1), IntKind.i64.wrap (s16.2 + 1)) vw17) (I18 (s16.1, IntKind.i64.wrap (s16.2 + 1)) vw17)))) (C31 most2 vw17 fun r25 vw26 =>
      Br (decide (s16.1 > r25)) (R 13 vw26) (R 0 vw26))
/-- foliant/foliantref10.Counts -/
def S18 (counts1 : Slc) (most2 : Int) (w : World) (R : Int → World → Prop) : Prop :=
  Br (decide (((counts1.len : Nat) : Int) > 288)) (R 6 w) (Br (decide (most2 < 1)) (R 1 w) (Br (decide (most2 > 15)) (R 1 w) (Lp (σ := Int × Int) (S18L1 counts1 most2 R) (0, 0) w)))
def pl18 : Plan := (.seq (.reg .seq) (.seq (.seq (.reg .seq) (.cond (.seq (.reg .seq) .leaf) .leaf)) (.seq (.seq (.reg .seq) (.cond (.seq (.reg .seq) .leaf) .leaf)) (.seq (.reg .seq) (.seq (.seq (.reg .seq) (.block (.loop [(5, (.one (.int .i64))), (6, (.one (.int .i64)))] [0, 1] (.seq (.seq (.reg .seq) (.cond .leaf .leaf)) (.seq (.block (.seq (.seq (.reg .seq) (.cond (.seq (.reg .seq) .leaf) .leaf)) (.seq (.reg .seq) (.cond (.reg .seq) .leaf)))) (.reg .seq)))))) (.seq (.seq (.reg .seq) (.cond (.seq (.reg .seq) .leaf) .leaf)) (.seq (.reg .seq) .leaf)))))))
set_option maxRecDepth 100000 in
theorem T18 (counts1 : Slc) (most2 : Int) (w : World) (R : Int → World → Prop) (h : S18 counts1 most2 w R) : C18 counts1 most2 w R := by
  have e : fnT Try.prog ⟨FF, MAY, (fun _ _ => False)⟩ pl18 Try.f18 [Slc.v counts1, .int .i64 most2] w [(.one (.int .i64))] (fun s w => R s w) = S18 counts1 most2 w R := by kernel_rfl
  exact (fn_calls okF okM Try.func18 (by kernel_rfl) (by kernel_rfl) (e.mpr h)).mono fun _ _ ⟨s, he, hR⟩ => ⟨s, he, hR⟩

def S37L1 (l1 : Slc) (n2 : Int) (R : Slc → World → Prop) (I33 : (Slc × Bool × Int) → World → Prop) (s31 : Slc × Bool × Int) (vw32 : World) : Prop :=
  Br (decide (s31.2.2 < ((l1.len : Nat) : Int))) (Br (!s31.2.1) (0 ≤ s31.2.2 ∧ s31.2.2 < (l1.len : Nat) ∧ Nn l1.p fun a34 =>
      Ld vw32 (a34.add ((s31.2.2).toNat * 1)) (Value.int .i64) fun (x35 : Int) =>
      Br (decide (n2 < x35)) (Nw vw32 (.cells #[.int .i64 n2] 3) fun vw36 =>
        Rn Try.prog (Builtin.append_ #[22, 22] 22 #[Slc.v s31.1, Slc.v ((⟨some ⟨vw32.heap.size, 0, none⟩, 1, 1⟩ : Slc))]) vw36 Slc.v fun (x37 : Slc) vw38 =>
        0 ≤ s31.2.2 ∧ s31.2.2 < (l1.len : Nat) ∧ Nn l1.p fun a39 =>
        Ld vw38 (a39.add ((s31.2.2).toNat * 1)) (Value.int .i64) fun (x40 : Int) =>
        Nw vw38 (.cells #[.int .i64 x40] 3) fun vw41 =>
        Rn Try.prog (Builtin.append_ #[22, 22] 22 #[Slc.v x37, Slc.v ((⟨some ⟨vw38.heap.size, 0, none⟩, 1, 1⟩ : Slc))]) vw41 Slc.v fun (x42 : Slc) vw43 =>
        I33 (x42, true, IntKind.i64.wrap (s31.2.2 + 1)) vw43) (0 ≤ s31.2.2 ∧ s31.2.2 < (l1.len : Nat) ∧ Nn l1.p fun a44 =>
        Ld vw32 (a44.add ((s31.2.2).toNat * 1)) (Value.int .i64) fun (x45 : Int) =>
        Nw vw32 (.cells #[.int .i64 x45] 3) fun vw46 =>
        Rn Try.prog (Builtin.append_ #[22, 22] 22 #[Slc.v s31.1, Slc.v ((⟨some ⟨vw32.heap.size, 0, none⟩, 1, 1⟩ : Slc))]) vw46 Slc.v fun (x47 : Slc) vw48 =>
        I33 (x47, s31.2.1, IntKind.i64.wrap (s31.2.2 + 1)) vw48)) (0 ≤ s31.2.2 ∧ s31.2.2 < (l1.len : Nat) ∧ Nn l1.p fun a49 =>
      Ld vw32 (a49.add ((s31.2.2).toNat * 1)) (Value.int .i64) fun (x50 : Int) =>
      Nw vw32 (.cells #[.int .i64 x50] 3) fun vw51 =>
      Rn Try.prog (Builtin.append_ #[22, 22] 22 #[Slc.v s31.1, Slc.v ((⟨some ⟨vw32.heap.size, 0, none⟩, 1, 1⟩ : Slc))]) vw51 Slc.v fun (x52 : Slc) vw53 =>
      I33 (x52, s31.2.1, IntKind.i64.wrap (s31.2.2 + 1)) vw53)) (Br (!s31.2.1) (Nw vw32 (.cells #[.int .i64 n2] 3) fun vw54 =>
      Rn Try.prog (Builtin.append_ #[22, 22] 22 #[Slc.v s31.1, Slc.v ((⟨some ⟨vw32.heap.size, 0, none⟩, 1, 1⟩ : Slc))]) vw54 Slc.v fun (x55 : Slc) vw56 =>
      R x55 vw56) (R s31.1 vw32))
/-- foliant/foliantref10.lay -/
def S37 (l1 : Slc) (n2 : Int) (w : World) (R : Slc → World → Prop) : Prop :=
  Lp (σ := Slc × Bool × Int) (S37L1 l1 n2 R) ((⟨none, 0, 0⟩ : Slc), false, 0) w
def pl37 : Plan := (.seq (.reg .seq) (.seq (.reg .seq) (.seq (.reg .seq) (.seq (.seq (.reg .seq) (.block (.loop [(5, (.one .slc)), (6, (.one .bool)), (7, (.one (.int .i64)))] [0, 1] (.seq (.seq (.reg .seq) (.cond .leaf .leaf)) (.seq (.block (.seq (.seq (.reg .seq) (.cond (.seq (.reg .seq) (.reg .seq)) .leaf)) (.reg .seq))) (.reg .seq)))))) (.seq (.seq (.reg .seq) (.cond (.reg .seq) .leaf)) (.seq (.reg .seq) .leaf))))))
set_option maxRecDepth 100000 in
theorem T37 (l1 : Slc) (n2 : Int) (w : World) (R : Slc → World → Prop) (h : S37 l1 n2 w R) : C37 l1 n2 w R := by
  have e : fnT Try.prog ⟨FF, MAY, (fun _ _ => False)⟩ pl37 Try.f37 [Slc.v l1, .int .i64 n2] w [(.one .slc)] (fun s w => R s w) = S37 l1 n2 w R := by kernel_rfl
  exact (fn_calls okF okM Try.func37 (by kernel_rfl) (by kernel_rfl) (e.mpr h)).mono fun _ _ ⟨s, he, hR⟩ => ⟨s, he, hR⟩

def S19L1 (s40 : Slc × Int) (I42 : (Slc × Int) → World → Prop) (I48 : (Slc × Int) → World → Prop) (s46 : Slc × Int) (vw47 : World) : Prop :=
  Br (decide ((IntKind.i64.wrap (s46.2 + 1)) < ((s40.1.len : Nat) : Int))) (0 ≤ s46.2 ∧ s46.2 < (s40.1.len : Nat) ∧ Nn s40.1.p fun a49 =>
    Ld vw47.drew (a49.add ((s46.2).toNat * 1)) (Value.int .i64) fun (x50 : Int) =>
    0 ≤ (IntKind.i64.wrap (s46.2 + 1)) ∧ (IntKind.i64.wrap (s46.2 + 1)) < (s40.1.len : Nat) ∧ Nn s40.1.p fun a51 =>
    Ld vw47.drew (a51.add ((IntKind.i64.wrap (s46.2 + 1)).toNat * 1)) (Value.int .i64) fun (x52 : Int) =>
    C37 s46.1 (IntKind.i64.wrap (x50 + x52)) vw47.drew fun r53 vw54 =>
      I48 (r53, IntKind.i64.wrap (s46.2 + 2)) vw54) (I42 (s46.1, IntKind.i64.wrap (s40.2 + 1)) vw47)
def S19L2 (s12 : Slc × Int) (s40 : Slc × Int) (R : Int → World → Prop) (I57 : (Int × Int) → World → Prop) (s55 : Int × Int) (vw56 : World) : Prop :=
  Lt (decide (s55.2 < (IntKind.i64.wrap ((IntKind.i64.wrap (2 * ((s12.1.len : Nat) : Int))) - 2)))) fun (x59 : Bool) =>
  Br x59 (Br (decide (s55.2 < ((s40.1.len : Nat) : Int))) (0 ≤ s55.2 ∧ s55.2 < (s40.1.len : Nat) ∧ Nn s40.1.p fun a60 =>
      Ld vw56 (a60.add ((s55.2).toNat * 1)) (Value.int .i64) fun (x61 : Int) =>
      I57 (IntKind.i64.wrap (s55.1 + x61), IntKind.i64.wrap (s55.2 + 1)) vw56) (R s55.1 vw56)) (R s55.1 vw56)
def S19L3 (most2 : Int) (s12 : Slc × Int) (R : Int → World → Prop) (I42 : (Slc × Int) → World → Prop) (s40 : Slc × Int) (vw41 : World) : Prop :=
  Br (decide (s40.2 < most2)) (Nw vw41 (.cells #[] 3) fun vw43 =>
    Rn Try.prog (Builtin.append_ #[22, 22] 22 #[Slc.v ((⟨some ⟨vw41.heap.size, 0, none⟩, 0, 0⟩ : Slc)), Slc.v s12.1]) vw43 Slc.v fun (x44 : Slc) vw45 =>
    Lp (σ := Slc × Int) (S19L1 s40 I42) (x44, 0) vw45) (Lp (σ := Int × Int) (S19L2 s12 s40 R) (0, 0) vw41)
def S19L4 (counts1 : Slc) (most2 : Int) (R : Int → World → Prop) (I14 : (Slc × Int) → World → Prop) (s12 : Slc × Int) (vw13 : World) : Prop :=
  Br (decide (s12.2 < ((counts1.len : Nat) : Int))) (0 ≤ s12.2 ∧ s12.2 < (counts1.len : Nat) ∧ Nn counts1.p fun a15 =>
    Ld vw13 (a15.add ((s12.2).toNat * 1)) (Value.int .i64) fun (x16 : Int) =>
    Br (decide (x16 > 0)) (0 ≤ s12.2 ∧ s12.2 < (counts1.len : Nat) ∧ Nn counts1.p fun a17 =>
      Ld vw13 (a17.add ((s12.2).toNat * 1)) (Value.int .i64) fun (x18 : Int) =>
      C37 s12.1 x18 vw13 fun r19 vw20 =>
        I14 (r19, IntKind.i64.wrap (s12.2 + 1)) vw20) (I14 (s12.1, IntKind.i64.wrap (s12.2 + 1)) vw13)) (Br (decide (((s12.1.len : Nat) : Int) < 2)) (Br (((s12.1.len : Nat) : Int) == 1) (0 ≤ (0 : Int) ∧ (0 : Int) < (s12.1.len : Nat) ∧ Nn s12.1.p fun a23 =>
        Ld vw13 (a23.add (((0 : Int)).toNat * 1)) (Value.int .i64) fun (x24 : Int) =>
        R x24 vw13) (R 0 vw13)) (Lp (σ := Slc × Int) (S19L3 most2 s12 R) (s12.1, 1) vw13))
/-- foliant/foliantref10.Least -/
def S19 (counts1 : Slc) (most2 : Int) (w : World) (R : Int → World → Prop) : Prop :=
  Lp (σ := Slc × Int) (S19L4 counts1 most2 R) ((⟨none, 0, 0⟩ : Slc), 0) w
def pl19 : Plan := (.seq (.reg .seq) (.seq (.reg .seq) (.seq (.seq (.reg .seq) (.block (.loop [(5, (.one .slc)), (6, (.one (.int .i64)))] [0, 1] (.seq (.seq (.reg .seq) (.cond .leaf .leaf)) (.seq (.block (.seq (.reg .seq) (.cond (.reg .seq) .leaf))) (.reg .seq)))))) (.seq (.seq (.reg .seq) (.cond (.seq (.seq (.reg .seq) (.cond (.seq (.reg .seq) .leaf) .leaf)) (.seq (.reg .seq) .leaf)) .leaf)) (.seq (.reg .seq) (.seq (.seq (.reg .seq) (.block (.loop [(7, (.one .slc)), (8, (.one (.int .i64)))] [1, 5] (.seq (.seq (.reg .seq) (.cond .leaf .leaf)) (.seq (.block (.seq (.reg .seq) (.seq (.seq (.reg .seq) (.block (.loop [(9, (.one .slc)), (10, (.one (.int .i64)))] [1, 5, 7, 8] (.seq (.seq (.reg .seq) (.cond .leaf .leaf)) (.seq (.block (.reg (.tail 11))) (.reg .seq)))))) (.reg .seq)))) (.reg .seq)))))) (.seq (.reg .seq) (.seq (.seq (.reg .seq) (.block (.loop [(11, (.one (.int .i64))), (12, (.one (.int .i64)))] [5, 7] (.seq (.seq (.reg .seq) (.cond .leaf .leaf)) (.seq (.block (.reg .seq)) (.reg .seq)))))) (.seq (.reg .seq) .leaf)))))))))
set_option maxRecDepth 100000 in
theorem T19 (counts1 : Slc) (most2 : Int) (w : World) (R : Int → World → Prop) (h : S19 counts1 most2 w R) : C19 counts1 most2 w R := by
  have e : fnT Try.prog ⟨FF, MAY, (fun _ _ => False)⟩ pl19 Try.f19 [Slc.v counts1, .int .i64 most2] w [(.one (.int .i64))] (fun s w => R s w) = S19 counts1 most2 w R := by kernel_rfl
  exact (fn_calls okF okM Try.func19 (by kernel_rfl) (by kernel_rfl) (e.mpr h)).mono fun _ _ ⟨s, he, hR⟩ => ⟨s, he, hR⟩

def S21L1 (t1 : Option Addr) (r2 : Option Addr) (R : Int → Int → World → Prop) (I7 : (Slc × Int × Int) → World → Prop) (s5 : Slc × Int × Int) (vw6 : World) : Prop :=
  Br (decide (((s5.1.len : Nat) : Int) > 0)) (C38 r2 1 vw6 fun r8 r9 vw10 =>
      Br (r9 != 0) (R 0 r9 vw10) (Nn t1 fun a18 =>
        0 ≤ s5.2.2 ∧ s5.2.2 < (16 : Nat) ∧ Ld vw10 ((a18.add 18).add ((s5.2.2).toNat * 1)) (Value.int .i64) fun (x19 : Int) =>
        Nn t1 fun a20 =>
        0 ≤ s5.2.2 ∧ s5.2.2 < (16 : Nat) ∧ Ld vw10 ((a20.add 2).add ((s5.2.2).toNat * 1)) (Value.int .i64) fun (x21 : Int) =>
        Lt (decide ((IntKind.i64.wrap ((ior .i64 (IntKind.i64.wrap (s5.2.1 * 2 ^ 1)) r8) - x19)) < x21)) fun (x22 : Bool) =>
        Br x22 (0 ≤ (IntKind.i64.wrap ((ior .i64 (IntKind.i64.wrap (s5.2.1 * 2 ^ 1)) r8) - x19)) ∧ (IntKind.i64.wrap ((ior .i64 (IntKind.i64.wrap (s5.2.1 * 2 ^ 1)) r8) - x19)) < (s5.1.len : Nat) ∧ Nn s5.1.p fun a23 =>
          Ld vw10 (a23.add ((IntKind.i64.wrap ((ior .i64 (IntKind.i64.wrap (s5.2.1 * 2 ^ 1)) r8) - x19)).toNat * 1)) (Value.int .i64) fun (x24 : Int) =>
          R x24 0 vw10) (Nn t1 fun a25 =>
          0 ≤ s5.2.2 ∧ s5.2.2 < (16 : Nat) ∧ Ld vw10 ((a25.add 2).add ((s5.2.2).toNat * 1)) (Value.int .i64) fun (x26 : Int) =>
          0 ≤ x26 ∧ x26 ≤ ((s5.1.len : Nat) : Int) ∧ I7 (s5.1.cut 1 ((x26).toNat) s5.1.len s5.1.cap, ior .i64 (IntKind.i64.wrap (s5.2.1 * 2 ^ 1)) r8, IntKind.i64.wrap (s5.2.2 + 1)) vw10))) (R 0 13 vw6)
/-- (*foliant/code.Table).Read -/
def S21 (t1 : Option Addr) (r2 : Option Addr) (w : World) (R : Int → Int → World → Prop) : Prop :=
  Br t1.isNone (R 0 1 w) (Br r2.isNone (R 0 1 w) (Nn t1 fun a3 =>
      Ld w (a3.add 34) Slc.v fun (x4 : Slc) =>
      Lp (σ := Slc × Int × Int) (S21L1 t1 r2 R) (x4, 0, 1) w))
def pl21 : Plan := (.seq (.reg .seq) (.seq (.seq (.reg .seq) (.cond (.seq (.reg .seq) .leaf) .leaf)) (.seq (.reg .seq) (.seq (.reg .seq) (.seq (.seq (.reg .seq) (.block (.loop [(6, (.one .slc)), (7, (.one (.int .i64))), (8, (.one (.int .i64)))] [0, 1] (.seq (.seq (.reg .seq) (.cond .leaf .leaf)) (.seq (.block (.seq (.reg .seq) (.seq (.seq (.reg .seq) (.cond (.seq (.reg .seq) .leaf) .leaf)) (.seq (.reg .seq) (.seq (.seq (.reg .seq) (.seq (.reg .seq) (.cond (.seq (.reg .seq) .leaf) .leaf))) (.reg .seq)))))) (.reg .seq)))))) (.seq (.reg .seq) .leaf))))))
set_option maxRecDepth 100000 in
theorem T21 (t1 : Option Addr) (r2 : Option Addr) (w : World) (R : Int → Int → World → Prop) (h : S21 t1 r2 w R) : C21 t1 r2 w R := by
  have e : fnT Try.prog ⟨FF, MAY, (fun _ _ => False)⟩ pl21 Try.f21 [.pointer t1, .pointer r2] w [(.one (.int .i64)), (.one (.int .i64))] (fun s w => R s.1 s.2 w) = S21 t1 r2 w R := by kernel_rfl
  exact (fn_calls okF okM Try.func21 (by kernel_rfl) (by kernel_rfl) (e.mpr h)).mono fun _ _ ⟨s, he, hR⟩ => ⟨s.1, s.2, he, hR⟩

/-- foliant/foliantref10.Bit -/
def S39 (s1 : ByteArray) (vat2 : Int) (w : World) (R : Int → World → Prop) : Prop :=
  Br (decide (vat2 < 0)) (R (-1) w) (Br (decide ((IntKind.i64.wrap (Int.tdiv vat2 8)) ≥ (((s1).size : Nat) : Int))) (R (-1) w) (0 ≤ (IntKind.i64.wrap (Int.tdiv vat2 8)) ∧ (IntKind.i64.wrap (Int.tdiv vat2 8)) < ((s1).size : Nat) ∧ C31 (Int.tmod vat2 8) w.drew fun r3 vw4 =>
        r3 ≠ 0 ∧ R (Int.tmod (IntKind.i64.wrap (Int.tdiv (IntKind.i64.wrap (bAt s1 (IntKind.i64.wrap (Int.tdiv vat2 8)))) r3)) 2) vw4))
def pl39 : Plan := (.seq (.reg .seq) (.seq (.seq (.reg .seq) (.cond (.seq (.reg .seq) .leaf) .leaf)) (.seq (.reg (.held [7] (.take 0 (.take 1 (.take 2 (.take 3 (.take 4 (.take 5 (.take 6 (.eff 7 (some []) (.take 8 (.take 9 (.take 10 .done))))))))))))) .leaf)))
set_option maxRecDepth 100000 in
theorem T39 (s1 : ByteArray) (vat2 : Int) (w : World) (R : Int → World → Prop) (h : S39 s1 vat2 w R) : C39 s1 vat2 w R := by
  have e : fnT Try.prog ⟨FF, MAY, (fun _ _ => False)⟩ pl39 Try.f39 [.string s1, .int .i64 vat2] w [(.one (.int .i64))] (fun s w => R s w) = S39 s1 vat2 w R := by kernel_rfl
  exact (fn_calls okF okM Try.func39 (by kernel_rfl) (by kernel_rfl) (e.mpr h)).mono fun _ _ ⟨s, he, hR⟩ => ⟨s, he, hR⟩

def S40L1 (lens1 : Slc) (n2 : Int) (R : Int → World → Prop) (I6 : (Int × Int) → World → Prop) (s4 : Int × Int) (vw5 : World) : Prop :=
  Br (decide (s4.2 < ((lens1.len : Nat) : Int))) (0 ≤ s4.2 ∧ s4.2 < (lens1.len : Nat) ∧ Nn lens1.p fun a7 =>
    Ld vw5 (a7.add ((s4.2).toNat * 1)) (Value.int .i64) fun (x8 : Int) =>
    Br (x8 == n2) (Br (s4.1 == 0) (R s4.2 vw5) (I6 (IntKind.i64.wrap (s4.1 - 1), IntKind.i64.wrap (s4.2 + 1)) vw5)) (I6 (s4.1, IntKind.i64.wrap (s4.2 + 1)) vw5)) (R 0 vw5)
/-- foliant/foliantref10.place -/
def S40 (lens1 : Slc) (n2 : Int) (ahead3 : Int) (w : World) (R : Int → World → Prop) : Prop :=
  Lp (σ := Int × Int) (S40L1 lens1 n2 R) (ahead3, 0) w
def pl40 : Plan := (.seq (.reg .seq) (.seq (.seq (.reg .seq) (.block (.loop [(2, (.one (.int .i64))), (7, (.one (.int .i64)))] [0, 1] (.seq (.seq (.reg .seq) (.cond .leaf .leaf)) (.seq (.block (.seq (.reg .seq) (.cond (.seq (.seq (.reg .seq) (.cond (.seq (.reg .seq) .leaf) .leaf)) (.reg .seq)) .leaf))) (.reg .seq)))))) (.seq (.reg .seq) .leaf)))
set_option maxRecDepth 100000 in
theorem T40 (lens1 : Slc) (n2 : Int) (ahead3 : Int) (w : World) (R : Int → World → Prop) (h : S40 lens1 n2 ahead3 w R) : C40 lens1 n2 ahead3 w R := by
  have e : fnT Try.prog ⟨FF, MAY, (fun _ _ => False)⟩ pl40 Try.f40 [Slc.v lens1, .int .i64 n2, .int .i64 ahead3] w [(.one (.int .i64))] (fun s w => R s w) = S40 lens1 n2 ahead3 w R := by kernel_rfl
  exact (fn_calls okF okM Try.func40 (by kernel_rfl) (by kernel_rfl) (e.mpr h)).mono fun _ _ ⟨s, he, hR⟩ => ⟨s, he, hR⟩

def S22L1 (w : World) (lens1 : Slc) (s2 : ByteArray) (s14 : Int × Int) (R : Int → Int → Int → World → Prop) (I25 : (Int × Int × Int × Int) → World → Prop) (s23 : Int × Int × Int × Int) (vw24 : World) : Prop :=
  Br (decide (s23.2.2.2 ≤ s14.1)) (C39 s2 s23.1 vw24 fun r26 vw27 =>
      Br (decide (r26 < 0)) (R 0 s23.1 4 vw27) (Lt (IntKind.i64.wrap ((IntKind.i64.wrap ((IntKind.i64.wrap (2 * s23.2.1)) + r26)) - (IntKind.i64.wrap (2 * s23.2.2.1)))) fun (x28 : Int) =>
        0 ≤ s23.2.2.2 ∧ s23.2.2.2 < (16 : Nat) ∧ Ld vw27 ((⟨w.heap.size, 0, none⟩ : Addr).add ((s23.2.2.2).toNat * 1)) (Value.int .i64) fun (x29 : Int) =>
        Br (decide (x28 < x29)) (Lt (IntKind.i64.wrap ((IntKind.i64.wrap ((IntKind.i64.wrap (2 * s23.2.1)) + r26)) - (IntKind.i64.wrap (2 * s23.2.2.1)))) fun (x30 : Int) =>
          C40 lens1 s23.2.2.2 x30 vw27 fun r31 vw32 =>
            R r31 (IntKind.i64.wrap (s23.1 + 1)) 0 vw32) (0 ≤ s23.2.2.2 ∧ s23.2.2.2 < (16 : Nat) ∧ Ld vw27 ((⟨w.heap.size, 0, none⟩ : Addr).add ((s23.2.2.2).toNat * 1)) (Value.int .i64) fun (x33 : Int) =>
          I25 (IntKind.i64.wrap (s23.1 + 1), IntKind.i64.wrap ((IntKind.i64.wrap (2 * s23.2.1)) + r26), IntKind.i64.wrap ((IntKind.i64.wrap (2 * s23.2.2.1)) + x33), IntKind.i64.wrap (s23.2.2.2 + 1)) vw27))) (R 0 s23.1 13 vw24)
def S22L2 (w : World) (lens1 : Slc) (s2 : ByteArray) (vat3 : Int) (R : Int → Int → Int → World → Prop) (I16 : (Int × Int) → World → Prop) (s14 : Int × Int) (vw15 : World) : Prop :=
  Br (decide (s14.2 < ((lens1.len : Nat) : Int))) (0 ≤ s14.2 ∧ s14.2 < (lens1.len : Nat) ∧ Nn lens1.p fun a17 =>
    Ld vw15 (a17.add ((s14.2).toNat * 1)) (Value.int .i64) fun (x18 : Int) =>
    0 ≤ x18 ∧ x18 < (16 : Nat) ∧ Ld vw15 ((⟨w.heap.size, 0, none⟩ : Addr).add ((x18).toNat * 1)) (Value.int .i64) fun (x19 : Int) =>
    0 ≤ x18 ∧ x18 < (16 : Nat) ∧ St vw15 ((⟨w.heap.size, 0, none⟩ : Addr).add ((x18).toNat * 1)) (.int .i64 (IntKind.i64.wrap (x19 + 1))) fun vw20 =>
    0 ≤ s14.2 ∧ s14.2 < (lens1.len : Nat) ∧ Nn lens1.p fun a21 =>
    Ld vw20 (a21.add ((s14.2).toNat * 1)) (Value.int .i64) fun (x22 : Int) =>
    I16 ((if x22 > s14.1 then x22 else s14.1), IntKind.i64.wrap (s14.2 + 1)) vw20) (Lp (σ := Int × Int × Int × Int) (S22L1 w lens1 s2 s14 R) (vat3, 0, 0, 1) vw15)
/-- foliant/foliantref10.Sign -/
def S22 (lens1 : Slc) (s2 : ByteArray) (vat3 : Int) (w : World) (R : Int → Int → Int → World → Prop) : Prop :=
  Nw w (.cells #[.int .i64 0, .int .i64 0, .int .i64 0, .int .i64 0, .int .i64 0, .int .i64 0, .int .i64 0, .int .i64 0, .int .i64 0, .int .i64 0, .int .i64 0, .int .i64 0, .int .i64 0, .int .i64 0, .int .i64 0, .int .i64 0] 50) fun vw4 =>
  Lp (σ := Int × Int) (S22L2 w lens1 s2 vat3 R) (0, 0) vw4
def pl22 : Plan := (.seq (.reg .seq) (.seq (.reg .seq) (.seq (.reg .seq) (.seq (.seq (.reg .seq) (.block (.loop [(10, (.one (.int .i64))), (11, (.one (.int .i64)))] [0, 1, 2, 9] (.seq (.seq (.reg .seq) (.cond .leaf .leaf)) (.seq (.block (.seq (.reg .seq) (.reg .seq))) (.reg .seq)))))) (.seq (.reg .seq) (.seq (.seq (.reg .seq) (.block (.loop [(2, (.one (.int .i64))), (12, (.one (.int .i64))), (13, (.one (.int .i64))), (14, (.one (.int .i64)))] [0, 1, 9, 10] (.seq (.seq (.reg .seq) (.cond .leaf .leaf)) (.seq (.block (.seq (.reg .seq) (.seq (.seq (.reg .seq) (.cond (.seq (.reg .seq) .leaf) .leaf)) (.seq (.reg .seq) (.seq (.reg .seq) (.seq (.reg .seq) (.seq (.seq (.reg .seq) (.cond (.seq (.reg .seq) .leaf) .leaf)) (.reg .seq)))))))) (.reg .seq)))))) (.seq (.reg .seq) .leaf)))))))
set_option maxRecDepth 100000 in
theorem T22 (lens1 : Slc) (s2 : ByteArray) (vat3 : Int) (w : World) (R : Int → Int → Int → World → Prop) (h : S22 lens1 s2 vat3 w R) : C22 lens1 s2 vat3 w R := by
  have e : fnT Try.prog ⟨FF, MAY, (fun _ _ => False)⟩ pl22 Try.f22 [Slc.v lens1, .string s2, .int .i64 vat3] w [(.one (.int .i64)), (.one (.int .i64)), (.one (.int .i64))] (fun s w => R s.1 s.2.1 s.2.2 w) = S22 lens1 s2 vat3 w R := by kernel_rfl
  exact (fn_calls okF okM Try.func22 (by kernel_rfl) (by kernel_rfl) (e.mpr h)).mono fun _ _ ⟨s, he, hR⟩ => ⟨s.1, s.2.1, s.2.2, he, hR⟩

def S25L1 (t1 : Option Addr) (vw2 : Option Addr) (sign3 : Int) (R : Int → World → Prop) (I14 : Int → World → Prop) (s12 : Int) (vw13 : World) : Prop :=
  Br (decide (s12 ≥ 0)) (Nn t1 fun a15 =>
    Ld vw13 (a15.add 1) Slc.v fun (x16 : Slc) =>
    0 ≤ sign3 ∧ sign3 < (x16.len : Nat) ∧ Nn x16.p fun a17 =>
    Ld vw13 (a17.add ((sign3).toNat * 1)) (Value.int .i64) fun (x18 : Int) =>
    0 ≤ s12 ∧ C41 vw2 (iand .i64 (Int.fdiv x18 (2 ^ (min (s12).toNat 64))) 1) 1 vw13 fun r19 vw20 =>
      Br (r19 != 0) (R r19 vw20) (I14 (IntKind.i64.wrap (s12 - 1)) vw20)) (R 0 vw13)
/-- (*foliant/code.Table).Write -/
def S25 (t1 : Option Addr) (vw2 : Option Addr) (sign3 : Int) (w : World) (R : Int → World → Prop) : Prop :=
  Br t1.isNone (R 1 w) (Br vw2.isNone (R 1 w) (Br (decide (sign3 < 0)) (R 1 w) (Nn t1 fun a6 =>
        Ld w a6 Slc.v fun (x7 : Slc) =>
        Br (decide (sign3 ≥ ((x7.len : Nat) : Int))) (R 1 w) (Nn t1 fun a8 =>
          Ld w a8 Slc.v fun (x9 : Slc) =>
          0 ≤ sign3 ∧ sign3 < (x9.len : Nat) ∧ Nn x9.p fun a10 =>
          Ld w (a10.add ((sign3).toNat * 1)) (Value.int .i64) fun (x11 : Int) =>
          Br (x11 == 0) (R 13 w) (Lp (σ := Int) (S25L1 t1 vw2 sign3 R) (IntKind.i64.wrap (x11 - 1)) w)))))
def pl25 : Plan := (.seq (.reg .seq) (.seq (.seq (.reg .seq) (.cond (.seq (.reg .seq) .leaf) .leaf)) (.seq (.reg .seq) (.seq (.seq (.reg .seq) (.cond (.seq (.reg .seq) .leaf) .leaf)) (.seq (.seq (.reg .seq) (.block (.loop [(8, (.one (.int .i64)))] [0, 1, 2] (.seq (.seq (.reg .seq) (.cond .leaf .leaf)) (.seq (.block (.seq (.reg .seq) (.seq (.reg .seq) (.cond (.seq (.reg .seq) .leaf) .leaf)))) (.reg .seq)))))) (.seq (.reg .seq) .leaf))))))
set_option maxRecDepth 100000 in
theorem T25 (t1 : Option Addr) (vw2 : Option Addr) (sign3 : Int) (w : World) (R : Int → World → Prop) (h : S25 t1 vw2 sign3 w R) : C25 t1 vw2 sign3 w R := by
  have e : fnT Try.prog ⟨FF, MAY, (fun _ _ => False)⟩ pl25 Try.f25 [.pointer t1, .pointer vw2, .int .i64 sign3] w [(.one (.int .i64))] (fun s w => R s w) = S25 t1 vw2 sign3 w R := by kernel_rfl
  exact (fn_calls okF okM Try.func25 (by kernel_rfl) (by kernel_rfl) (e.mpr h)).mono fun _ _ ⟨s, he, hR⟩ => ⟨s, he, hR⟩

end Go.Proofs.Ytapgacggllbhiaa
