/- The formulas of 15 functions of the program, written by program (gen.py); the kernel checks each. No condition. -/
import Derived.Test.YtpkadliieplblaaDoorFn
import Derived.Test.YtpkadliieplblaaDoorFnFix
import Derived.Test.YtpkadliieplblaaDoorFnOct
import Derived.Test.YtpkadliieplblaaDoorFnBu
namespace Go.Proofs.YtpkadliieplblaaDoor
open Sh
set_option linter.unusedVariables false
set_option maxRecDepth 100000

def C46 (ve1 : Int) (w : World) (R : (Int × Int × Int × Int × ByteArray) → Int → World → Prop) : Prop :=
  Calls Tryd.prog 46 #[.int .i64 ve1] w fun e w' => ∃ r0 : Int × Int × Int × Int × ByteArray, ∃ r1 : Int, e = .returned (.tuple #[.agg #[.int .i64 (r0.1), .int .i64 (r0.2.1), .int .i64 (r0.2.2.1), .int .i64 (r0.2.2.2.1), .string r0.2.2.2.2], .int .i64 r1]) ∧ R r0 r1 w'
theorem C46.mono {ve1 : Int} {w : World} {R R' : (Int × Int × Int × Int × ByteArray) → Int → World → Prop} (h : C46 ve1 w R) (hr : ∀ r0 r1 w', R r0 r1 w' → R' r0 r1 w') : C46 ve1 w R' :=
  Calls.mono h fun _ _ ⟨r0, r1, he, hR⟩ => ⟨r0, r1, he, hr _ _ _ hR⟩
def C48 (c1 : ByteArray × Int) (n2 : Int) (w : World) (R : (Int × Int × Int × Int × ByteArray) → Int → World → Prop) : Prop :=
  Calls Tryd.prog 48 #[.agg #[.string c1.1, .int .i64 (c1.2)], .int .i64 n2] w fun e w' => ∃ r0 : Int × Int × Int × Int × ByteArray, ∃ r1 : Int, e = .returned (.tuple #[.agg #[.int .i64 (r0.1), .int .i64 (r0.2.1), .int .i64 (r0.2.2.1), .int .i64 (r0.2.2.2.1), .string r0.2.2.2.2], .int .i64 r1]) ∧ R r0 r1 w'
theorem C48.mono {c1 : ByteArray × Int} {n2 : Int} {w : World} {R R' : (Int × Int × Int × Int × ByteArray) → Int → World → Prop} (h : C48 c1 n2 w R) (hr : ∀ r0 r1 w', R r0 r1 w' → R' r0 r1 w') : C48 c1 n2 w R' :=
  Calls.mono h fun _ _ ⟨r0, r1, he, hR⟩ => ⟨r0, r1, he, hr _ _ _ hR⟩
def C68 (c1 : ByteArray × Int) (kind2 : Int) (to3 : Int) (text4 : ByteArray) (most5 : Int) (w : World) (R : (Int × Int × Int × Int × ByteArray) → Int → World → Prop) : Prop :=
  Calls Tryd.prog 68 #[.agg #[.string c1.1, .int .i64 (c1.2)], .int .i64 kind2, .int .i64 to3, .string text4, .int .i64 most5] w fun e w' => ∃ r0 : Int × Int × Int × Int × ByteArray, ∃ r1 : Int, e = .returned (.tuple #[.agg #[.int .i64 (r0.1), .int .i64 (r0.2.1), .int .i64 (r0.2.2.1), .int .i64 (r0.2.2.2.1), .string r0.2.2.2.2], .int .i64 r1]) ∧ R r0 r1 w'
theorem C68.mono {c1 : ByteArray × Int} {kind2 : Int} {to3 : Int} {text4 : ByteArray} {most5 : Int} {w : World} {R R' : (Int × Int × Int × Int × ByteArray) → Int → World → Prop} (h : C68 c1 kind2 to3 text4 most5 w R) (hr : ∀ r0 r1 w', R r0 r1 w' → R' r0 r1 w') : C68 c1 kind2 to3 text4 most5 w R' :=
  Calls.mono h fun _ _ ⟨r0, r1, he, hR⟩ => ⟨r0, r1, he, hr _ _ _ hR⟩
def C49 (c1 : ByteArray × Int) (w : World) (R : (Int × Int × Int × Int × ByteArray) → Int → World → Prop) : Prop :=
  Calls Tryd.prog 49 #[.agg #[.string c1.1, .int .i64 (c1.2)]] w fun e w' => ∃ r0 : Int × Int × Int × Int × ByteArray, ∃ r1 : Int, e = .returned (.tuple #[.agg #[.int .i64 (r0.1), .int .i64 (r0.2.1), .int .i64 (r0.2.2.1), .int .i64 (r0.2.2.2.1), .string r0.2.2.2.2], .int .i64 r1]) ∧ R r0 r1 w'
theorem C49.mono {c1 : ByteArray × Int} {w : World} {R R' : (Int × Int × Int × Int × ByteArray) → Int → World → Prop} (h : C49 c1 w R) (hr : ∀ r0 r1 w', R r0 r1 w' → R' r0 r1 w') : C49 c1 w R' :=
  Calls.mono h fun _ _ ⟨r0, r1, he, hR⟩ => ⟨r0, r1, he, hr _ _ _ hR⟩
def C70 (c1 : ByteArray × Int) (vfrom2 : Int) (w : World) (R : Int → World → Prop) : Prop :=
  Calls Tryd.prog 70 #[.agg #[.string c1.1, .int .i64 (c1.2)], .int .i64 vfrom2] w fun e w' => ∃ r0 : Int, e = .returned (.int .i64 r0) ∧ R r0 w'
theorem C70.mono {c1 : ByteArray × Int} {vfrom2 : Int} {w : World} {R R' : Int → World → Prop} (h : C70 c1 vfrom2 w R) (hr : ∀ r0 w', R r0 w' → R' r0 w') : C70 c1 vfrom2 w R' :=
  Calls.mono h fun _ _ ⟨r0, he, hR⟩ => ⟨r0, he, hr _ _ hR⟩
def C50 (c1 : ByteArray × Int) (w : World) (R : (Int × Int × Int × Int × ByteArray) → Int → World → Prop) : Prop :=
  Calls Tryd.prog 50 #[.agg #[.string c1.1, .int .i64 (c1.2)]] w fun e w' => ∃ r0 : Int × Int × Int × Int × ByteArray, ∃ r1 : Int, e = .returned (.tuple #[.agg #[.int .i64 (r0.1), .int .i64 (r0.2.1), .int .i64 (r0.2.2.1), .int .i64 (r0.2.2.2.1), .string r0.2.2.2.2], .int .i64 r1]) ∧ R r0 r1 w'
theorem C50.mono {c1 : ByteArray × Int} {w : World} {R R' : (Int × Int × Int × Int × ByteArray) → Int → World → Prop} (h : C50 c1 w R) (hr : ∀ r0 r1 w', R r0 r1 w' → R' r0 r1 w') : C50 c1 w R' :=
  Calls.mono h fun _ _ ⟨r0, r1, he, hR⟩ => ⟨r0, r1, he, hr _ _ _ hR⟩
def C72 (c1 : ByteArray × Int) (vat2 : Int) (w : World) (R : Int → Bool → World → Prop) : Prop :=
  Calls Tryd.prog 72 #[.agg #[.string c1.1, .int .i64 (c1.2)], .int .i64 vat2] w fun e w' => ∃ r0 : Int, ∃ r1 : Bool, e = .returned (.tuple #[.int .i64 r0, .bool r1]) ∧ R r0 r1 w'
theorem C72.mono {c1 : ByteArray × Int} {vat2 : Int} {w : World} {R R' : Int → Bool → World → Prop} (h : C72 c1 vat2 w R) (hr : ∀ r0 r1 w', R r0 r1 w' → R' r0 r1 w') : C72 c1 vat2 w R' :=
  Calls.mono h fun _ _ ⟨r0, r1, he, hR⟩ => ⟨r0, r1, he, hr _ _ _ hR⟩
def C73 (c1 : ByteArray × Int) (vat2 : Int) (w : World) (R : ByteArray → Int → World → Prop) : Prop :=
  Calls Tryd.prog 73 #[.agg #[.string c1.1, .int .i64 (c1.2)], .int .i64 vat2] w fun e w' => ∃ r0 : ByteArray, ∃ r1 : Int, e = .returned (.tuple #[.string r0, .int .i64 r1]) ∧ R r0 r1 w'
theorem C73.mono {c1 : ByteArray × Int} {vat2 : Int} {w : World} {R R' : ByteArray → Int → World → Prop} (h : C73 c1 vat2 w R) (hr : ∀ r0 r1 w', R r0 r1 w' → R' r0 r1 w') : C73 c1 vat2 w R' :=
  Calls.mono h fun _ _ ⟨r0, r1, he, hR⟩ => ⟨r0, r1, he, hr _ _ _ hR⟩
def C51 (c1 : ByteArray × Int) (w : World) (R : (Int × Int × Int × Int × ByteArray) → Int → World → Prop) : Prop :=
  Calls Tryd.prog 51 #[.agg #[.string c1.1, .int .i64 (c1.2)]] w fun e w' => ∃ r0 : Int × Int × Int × Int × ByteArray, ∃ r1 : Int, e = .returned (.tuple #[.agg #[.int .i64 (r0.1), .int .i64 (r0.2.1), .int .i64 (r0.2.2.1), .int .i64 (r0.2.2.2.1), .string r0.2.2.2.2], .int .i64 r1]) ∧ R r0 r1 w'
theorem C51.mono {c1 : ByteArray × Int} {w : World} {R R' : (Int × Int × Int × Int × ByteArray) → Int → World → Prop} (h : C51 c1 w R) (hr : ∀ r0 r1 w', R r0 r1 w' → R' r0 r1 w') : C51 c1 w R' :=
  Calls.mono h fun _ _ ⟨r0, r1, he, hR⟩ => ⟨r0, r1, he, hr _ _ _ hR⟩
def C88 (s1 : ByteArray) (cutset2 : ByteArray) (w : World) (R : ByteArray → World → Prop) : Prop :=
  Calls Tryd.prog 88 #[.string s1, .string cutset2] w fun e w' => ∃ r0 : ByteArray, e = .returned (.string r0) ∧ R r0 w'
theorem C88.mono {s1 : ByteArray} {cutset2 : ByteArray} {w : World} {R R' : ByteArray → World → Prop} (h : C88 s1 cutset2 w R) (hr : ∀ r0 w', R r0 w' → R' r0 w') : C88 s1 cutset2 w R' :=
  Calls.mono h fun _ _ ⟨r0, he, hR⟩ => ⟨r0, he, hr _ _ hR⟩
def C90 (s1 : ByteArray) (substr2 : ByteArray) (w : World) (R : Bool → World → Prop) : Prop :=
  Calls Tryd.prog 90 #[.string s1, .string substr2] w fun e w' => ∃ r0 : Bool, e = .returned (.bool r0) ∧ R r0 w'
theorem C90.mono {s1 : ByteArray} {substr2 : ByteArray} {w : World} {R R' : Bool → World → Prop} (h : C90 s1 substr2 w R) (hr : ∀ r0 w', R r0 w' → R' r0 w') : C90 s1 substr2 w R' :=
  Calls.mono h fun _ _ ⟨r0, he, hR⟩ => ⟨r0, he, hr _ _ hR⟩
def C74 (s1 : ByteArray) (w : World) (R : Int → World → Prop) : Prop :=
  Calls Tryd.prog 74 #[.string s1] w fun e w' => ∃ r0 : Int, e = .returned (.int .i64 r0) ∧ R r0 w'
theorem C74.mono {s1 : ByteArray} {w : World} {R R' : Int → World → Prop} (h : C74 s1 w R) (hr : ∀ r0 w', R r0 w' → R' r0 w') : C74 s1 w R' :=
  Calls.mono h fun _ _ ⟨r0, he, hR⟩ => ⟨r0, he, hr _ _ hR⟩
def C75 (s1 : ByteArray) (w : World) (R : Int → Int → World → Prop) : Prop :=
  Calls Tryd.prog 75 #[.string s1] w fun e w' => ∃ r0 : Int, ∃ r1 : Int, e = .returned (.tuple #[.int .i64 r0, .int .i64 r1]) ∧ R r0 r1 w'
theorem C75.mono {s1 : ByteArray} {w : World} {R R' : Int → Int → World → Prop} (h : C75 s1 w R) (hr : ∀ r0 r1 w', R r0 r1 w' → R' r0 r1 w') : C75 s1 w R' :=
  Calls.mono h fun _ _ ⟨r0, r1, he, hR⟩ => ⟨r0, r1, he, hr _ _ _ hR⟩
def C52 (c1 : ByteArray × Int) (w : World) (R : (Int × Int × Int × Int × ByteArray) → Int → World → Prop) : Prop :=
  Calls Tryd.prog 52 #[.agg #[.string c1.1, .int .i64 (c1.2)]] w fun e w' => ∃ r0 : Int × Int × Int × Int × ByteArray, ∃ r1 : Int, e = .returned (.tuple #[.agg #[.int .i64 (r0.1), .int .i64 (r0.2.1), .int .i64 (r0.2.2.1), .int .i64 (r0.2.2.2.1), .string r0.2.2.2.2], .int .i64 r1]) ∧ R r0 r1 w'
theorem C52.mono {c1 : ByteArray × Int} {w : World} {R R' : (Int × Int × Int × Int × ByteArray) → Int → World → Prop} (h : C52 c1 w R) (hr : ∀ r0 r1 w', R r0 r1 w' → R' r0 r1 w') : C52 c1 w R' :=
  Calls.mono h fun _ _ ⟨r0, r1, he, hR⟩ => ⟨r0, r1, he, hr _ _ _ hR⟩
def C35 (s1 : ByteArray) (vat2 : Int) (w : World) (R : (Int × Int × Int × Int × ByteArray) → Int → World → Prop) : Prop :=
  Calls Tryd.prog 35 #[.string s1, .int .i64 vat2] w fun e w' => ∃ r0 : Int × Int × Int × Int × ByteArray, ∃ r1 : Int, e = .returned (.tuple #[.agg #[.int .i64 (r0.1), .int .i64 (r0.2.1), .int .i64 (r0.2.2.1), .int .i64 (r0.2.2.2.1), .string r0.2.2.2.2], .int .i64 r1]) ∧ R r0 r1 w'
theorem C35.mono {s1 : ByteArray} {vat2 : Int} {w : World} {R R' : (Int × Int × Int × Int × ByteArray) → Int → World → Prop} (h : C35 s1 vat2 w R) (hr : ∀ r0 r1 w', R r0 r1 w' → R' r0 r1 w') : C35 s1 vat2 w R' :=
  Calls.mono h fun _ _ ⟨r0, r1, he, hR⟩ => ⟨r0, r1, he, hr _ _ _ hR⟩

/-- foliant/lex.refused -/
def S46 (ve1 : Int) (w : World) (R : (Int × Int × Int × Int × ByteArray) → Int → World → Prop) : Prop :=
  Nw w (.cells #[.int .i64 0, .int .i64 0, .int .i64 0, .int .i64 0, .string ((⟨#[]⟩ : ByteArray))] 32) fun vw2 =>
  St vw2 (⟨w.heap.size, 0, none⟩ : Addr) (.int .i64 0) fun vw3 =>
  St vw3 ((⟨w.heap.size, 0, none⟩ : Addr).add 1) (.int .i64 0) fun vw4 =>
  St vw4 ((⟨w.heap.size, 0, none⟩ : Addr).add 2) (.int .i64 0) fun vw5 =>
  St vw5 ((⟨w.heap.size, 0, none⟩ : Addr).add 3) (.int .i64 0) fun vw6 =>
  St vw6 ((⟨w.heap.size, 0, none⟩ : Addr).add 4) (.string ((⟨#[]⟩ : ByteArray))) fun vw7 =>
  Ld vw7 (⟨w.heap.size, 0, none⟩ : Addr) (Value.int .i64) fun (x8 : Int) =>
  Ld vw7 ((⟨w.heap.size, 0, none⟩ : Addr).add 1) (Value.int .i64) fun (x9 : Int) =>
  Ld vw7 ((⟨w.heap.size, 0, none⟩ : Addr).add 2) (Value.int .i64) fun (x10 : Int) =>
  Ld vw7 ((⟨w.heap.size, 0, none⟩ : Addr).add 3) (Value.int .i64) fun (x11 : Int) =>
  Ld vw7 ((⟨w.heap.size, 0, none⟩ : Addr).add 4) Value.string fun (x12 : ByteArray) =>
  R (x8, x9, x10, x11, x12) ve1 vw7
def pl46 : Plan := (.seq (.reg .seq) (.seq (.reg .seq) .leaf))
set_option maxRecDepth 100000 in
theorem T46 (ve1 : Int) (w : World) (R : (Int × Int × Int × Int × ByteArray) → Int → World → Prop) (h : S46 ve1 w R) : C46 ve1 w R := by
  have e : fnT Tryd.prog ⟨FF, MAY, (fun _ _ => False)⟩ pl46 Tryd.f46 [.int .i64 ve1] w [(.agg [(.int .i64), (.int .i64), (.int .i64), (.int .i64), .str]), (.one (.int .i64))] (fun s w => R s.1 s.2 w) = S46 ve1 w R := by kernel_rfl
  exact (fn_calls okF okM Tryd.func46 (by kernel_rfl) (by kernel_rfl) (e.mpr h)).mono fun _ _ ⟨s, he, hR⟩ => ⟨s.1, s.2, he, hR⟩

/-- (foliant/lex.cutter).mark -/
def S48 (c1 : ByteArray × Int) (n2 : Int) (w : World) (R : (Int × Int × Int × Int × ByteArray) → Int → World → Prop) : Prop :=
  Nw w (.cells #[.string c1.1, .int .i64 (c1.2)] 81) fun vw3 =>
  Nw vw3 (.cells #[.int .i64 0, .int .i64 0, .int .i64 0, .int .i64 0, .string ((⟨#[]⟩ : ByteArray))] 32) fun vw4 =>
  Ld vw4.drew ((⟨w.heap.size, 0, none⟩ : Addr).add 1) (Value.int .i64) fun (x5 : Int) =>
  Ld vw4.drew ((⟨w.heap.size, 0, none⟩ : Addr).add 1) (Value.int .i64) fun (x6 : Int) =>
  Ld vw4.drew (⟨w.heap.size, 0, none⟩ : Addr) Value.string fun (x7 : ByteArray) =>
  Ld vw4.drew ((⟨w.heap.size, 0, none⟩ : Addr).add 1) (Value.int .i64) fun (x8 : Int) =>
  Ld vw4.drew ((⟨w.heap.size, 0, none⟩ : Addr).add 1) (Value.int .i64) fun (x9 : Int) =>
  0 ≤ (IntKind.i64.wrap (x9 + n2)) ∧ (IntKind.i64.wrap (x9 + n2)) ≤ (((x7).size : Nat) : Int) ∧ 0 ≤ x8 ∧ x8 ≤ (((IntKind.i64.wrap (x9 + n2)).toNat : Nat) : Int) ∧ St vw4.drew (⟨vw3.heap.size, 0, none⟩ : Addr) (.int .i64 6) fun vw10 =>
  St vw10 ((⟨vw3.heap.size, 0, none⟩ : Addr).add 1) (.int .i64 x5) fun vw11 =>
  St vw11 ((⟨vw3.heap.size, 0, none⟩ : Addr).add 2) (.int .i64 (IntKind.i64.wrap (x6 + n2))) fun vw12 =>
  St vw12 ((⟨vw3.heap.size, 0, none⟩ : Addr).add 3) (.int .i64 0) fun vw13 =>
  St vw13 ((⟨vw3.heap.size, 0, none⟩ : Addr).add 4) (.string (x7.extract ((x8).toNat) ((IntKind.i64.wrap (x9 + n2)).toNat))) fun vw14 =>
  Ld vw14 (⟨vw3.heap.size, 0, none⟩ : Addr) (Value.int .i64) fun (x15 : Int) =>
  Ld vw14 ((⟨vw3.heap.size, 0, none⟩ : Addr).add 1) (Value.int .i64) fun (x16 : Int) =>
  Ld vw14 ((⟨vw3.heap.size, 0, none⟩ : Addr).add 2) (Value.int .i64) fun (x17 : Int) =>
  Ld vw14 ((⟨vw3.heap.size, 0, none⟩ : Addr).add 3) (Value.int .i64) fun (x18 : Int) =>
  Ld vw14 ((⟨vw3.heap.size, 0, none⟩ : Addr).add 4) Value.string fun (x19 : ByteArray) =>
  R (x15, x16, x17, x18, x19) 0 vw14
def pl48 : Plan := (.seq (.reg .seq) (.seq (.reg (.tail 15)) .leaf))
set_option maxRecDepth 100000 in
theorem T48 (c1 : ByteArray × Int) (n2 : Int) (w : World) (R : (Int × Int × Int × Int × ByteArray) → Int → World → Prop) (h : S48 c1 n2 w R) : C48 (c1.1, c1.2) n2 w R := by
  have e : fnT Tryd.prog ⟨FF, MAY, (fun _ _ => False)⟩ pl48 Tryd.f48 [.agg #[.string c1.1, .int .i64 (c1.2)], .int .i64 n2] w [(.agg [(.int .i64), (.int .i64), (.int .i64), (.int .i64), .str]), (.one (.int .i64))] (fun s w => R s.1 s.2 w) = S48 c1 n2 w R := by kernel_rfl
  exact (fn_calls okF okM Tryd.func48 (by kernel_rfl) (by kernel_rfl) (e.mpr h)).mono fun _ _ ⟨s, he, hR⟩ => ⟨s.1, s.2, he, hR⟩

/-- (foliant/lex.cutter).told -/
def S68 (c1 : ByteArray × Int) (kind2 : Int) (to3 : Int) (text4 : ByteArray) (most5 : Int) (w : World) (R : (Int × Int × Int × Int × ByteArray) → Int → World → Prop) : Prop :=
  Nw w (.cells #[.string c1.1, .int .i64 (c1.2)] 81) fun vw6 =>
  Nw vw6 (.cells #[.int .i64 0, .int .i64 0, .int .i64 0, .int .i64 0, .string ((⟨#[]⟩ : ByteArray))] 32) fun vw7 =>
  Br (decide ((((text4).size : Nat) : Int) > most5)) (C46 5 vw7 fun r16 r17 vw18 =>
      St vw18 (⟨vw6.heap.size, 0, none⟩ : Addr) (.int .i64 (r16.1)) fun vw19 =>
      St vw19 ((⟨vw6.heap.size, 0, none⟩ : Addr).add 1) (.int .i64 (r16.2.1)) fun vw20 =>
      St vw20 ((⟨vw6.heap.size, 0, none⟩ : Addr).add 2) (.int .i64 (r16.2.2.1)) fun vw21 =>
      St vw21 ((⟨vw6.heap.size, 0, none⟩ : Addr).add 3) (.int .i64 (r16.2.2.2.1)) fun vw22 =>
      St vw22 ((⟨vw6.heap.size, 0, none⟩ : Addr).add 4) (.string r16.2.2.2.2) fun vw23 =>
      Ld vw23 (⟨vw6.heap.size, 0, none⟩ : Addr) (Value.int .i64) fun (x24 : Int) =>
      Ld vw23 ((⟨vw6.heap.size, 0, none⟩ : Addr).add 1) (Value.int .i64) fun (x25 : Int) =>
      Ld vw23 ((⟨vw6.heap.size, 0, none⟩ : Addr).add 2) (Value.int .i64) fun (x26 : Int) =>
      Ld vw23 ((⟨vw6.heap.size, 0, none⟩ : Addr).add 3) (Value.int .i64) fun (x27 : Int) =>
      Ld vw23 ((⟨vw6.heap.size, 0, none⟩ : Addr).add 4) Value.string fun (x28 : ByteArray) =>
      R (x24, x25, x26, x27, x28) r17 vw23) (Ld vw7 ((⟨w.heap.size, 0, none⟩ : Addr).add 1) (Value.int .i64) fun (x29 : Int) =>
    St vw7 (⟨vw6.heap.size, 0, none⟩ : Addr) (.int .i64 kind2) fun vw30 =>
    St vw30 ((⟨vw6.heap.size, 0, none⟩ : Addr).add 1) (.int .i64 x29) fun vw31 =>
    St vw31 ((⟨vw6.heap.size, 0, none⟩ : Addr).add 2) (.int .i64 to3) fun vw32 =>
    St vw32 ((⟨vw6.heap.size, 0, none⟩ : Addr).add 3) (.int .i64 0) fun vw33 =>
    St vw33 ((⟨vw6.heap.size, 0, none⟩ : Addr).add 4) (.string text4) fun vw34 =>
    Ld vw34 (⟨vw6.heap.size, 0, none⟩ : Addr) (Value.int .i64) fun (x35 : Int) =>
    Ld vw34 ((⟨vw6.heap.size, 0, none⟩ : Addr).add 1) (Value.int .i64) fun (x36 : Int) =>
    Ld vw34 ((⟨vw6.heap.size, 0, none⟩ : Addr).add 2) (Value.int .i64) fun (x37 : Int) =>
    Ld vw34 ((⟨vw6.heap.size, 0, none⟩ : Addr).add 3) (Value.int .i64) fun (x38 : Int) =>
    Ld vw34 ((⟨vw6.heap.size, 0, none⟩ : Addr).add 4) Value.string fun (x39 : ByteArray) =>
    R (x35, x36, x37, x38, x39) 0 vw34)
def pl68 : Plan := (.seq (.reg .seq) (.seq (.seq (.reg .seq) (.cond (.seq (.reg .seq) .leaf) .leaf)) (.seq (.reg .seq) .leaf)))
set_option maxRecDepth 100000 in
theorem T68 (c1 : ByteArray × Int) (kind2 : Int) (to3 : Int) (text4 : ByteArray) (most5 : Int) (w : World) (R : (Int × Int × Int × Int × ByteArray) → Int → World → Prop) (h : S68 c1 kind2 to3 text4 most5 w R) : C68 (c1.1, c1.2) kind2 to3 text4 most5 w R := by
  have e : fnT Tryd.prog ⟨FF, MAY, (fun _ _ => False)⟩ pl68 Tryd.f68 [.agg #[.string c1.1, .int .i64 (c1.2)], .int .i64 kind2, .int .i64 to3, .string text4, .int .i64 most5] w [(.agg [(.int .i64), (.int .i64), (.int .i64), (.int .i64), .str]), (.one (.int .i64))] (fun s w => R s.1 s.2 w) = S68 c1 kind2 to3 text4 most5 w R := by kernel_rfl
  exact (fn_calls okF okM Tryd.func68 (by kernel_rfl) (by kernel_rfl) (e.mpr h)).mono fun _ _ ⟨s, he, hR⟩ => ⟨s.1, s.2, he, hR⟩

def S49L1 (w : World) (vw2 : World) (R : (Int × Int × Int × Int × ByteArray) → Int → World → Prop) (I86 : (Slc × Int × Int) → World → Prop) (s84 : Slc × Int × Int) (vw85 : World) : Prop :=
  Ld vw85 (⟨w.heap.size, 0, none⟩ : Addr) Value.string fun (x87 : ByteArray) =>
  Br (decide (s84.2.2 < (((x87).size : Nat) : Int))) (Ld vw85 (⟨w.heap.size, 0, none⟩ : Addr) Value.string fun (x88 : ByteArray) =>
    0 ≤ s84.2.2 ∧ s84.2.2 < ((x88).size : Nat) ∧ Br ((bAt x88 s84.2.2) == 62) (Br (decide (s84.2.1 ≥ 0)) (Nw vw85 (.cells #[.int .u8 (IntKind.u8.wrap (IntKind.i64.wrap (s84.2.1 * 2 ^ 4)))] 5) fun vw89 =>
        Rn Tryd.prog (Builtin.append_ #[56, 56] 56 #[Slc.v s84.1, Slc.v ((⟨some ⟨vw85.heap.size, 0, none⟩, 1, 1⟩ : Slc))]) vw89 Slc.v fun (x90 : Slc) vw91 =>
        Ld vw91 (⟨w.heap.size, 0, none⟩ : Addr) Value.string fun (x92 : ByteArray) =>
        Ld vw91 ((⟨w.heap.size, 0, none⟩ : Addr).add 1) (Value.int .i64) fun (x93 : Int) =>
        Rn Tryd.prog (convert 56 9 (Slc.v x90)) vw91 Value.string fun (x94 : ByteArray) vw95 =>
        C68 (x92, x93) 3 (IntKind.i64.wrap (s84.2.2 + 1)) x94 32767 vw95 fun r96 r97 vw98 =>
          St vw98 (⟨vw2.heap.size, 0, none⟩ : Addr) (.int .i64 (r96.1)) fun vw99 =>
          St vw99 ((⟨vw2.heap.size, 0, none⟩ : Addr).add 1) (.int .i64 (r96.2.1)) fun vw100 =>
          St vw100 ((⟨vw2.heap.size, 0, none⟩ : Addr).add 2) (.int .i64 (r96.2.2.1)) fun vw101 =>
          St vw101 ((⟨vw2.heap.size, 0, none⟩ : Addr).add 3) (.int .i64 (r96.2.2.2.1)) fun vw102 =>
          St vw102 ((⟨vw2.heap.size, 0, none⟩ : Addr).add 4) (.string r96.2.2.2.2) fun vw103 =>
          Ld vw103 (⟨vw2.heap.size, 0, none⟩ : Addr) (Value.int .i64) fun (x104 : Int) =>
          Ld vw103 ((⟨vw2.heap.size, 0, none⟩ : Addr).add 1) (Value.int .i64) fun (x105 : Int) =>
          Ld vw103 ((⟨vw2.heap.size, 0, none⟩ : Addr).add 2) (Value.int .i64) fun (x106 : Int) =>
          Ld vw103 ((⟨vw2.heap.size, 0, none⟩ : Addr).add 3) (Value.int .i64) fun (x107 : Int) =>
          Ld vw103 ((⟨vw2.heap.size, 0, none⟩ : Addr).add 4) Value.string fun (x108 : ByteArray) =>
          R (x104, x105, x106, x107, x108) r97 vw103) (Ld vw85 (⟨w.heap.size, 0, none⟩ : Addr) Value.string fun (x109 : ByteArray) =>
        Ld vw85 ((⟨w.heap.size, 0, none⟩ : Addr).add 1) (Value.int .i64) fun (x110 : Int) =>
        Rn Tryd.prog (convert 56 9 (Slc.v s84.1)) vw85 Value.string fun (x111 : ByteArray) vw112 =>
        C68 (x109, x110) 3 (IntKind.i64.wrap (s84.2.2 + 1)) x111 32767 vw112 fun r113 r114 vw115 =>
          St vw115 (⟨vw2.heap.size, 0, none⟩ : Addr) (.int .i64 (r113.1)) fun vw116 =>
          St vw116 ((⟨vw2.heap.size, 0, none⟩ : Addr).add 1) (.int .i64 (r113.2.1)) fun vw117 =>
          St vw117 ((⟨vw2.heap.size, 0, none⟩ : Addr).add 2) (.int .i64 (r113.2.2.1)) fun vw118 =>
          St vw118 ((⟨vw2.heap.size, 0, none⟩ : Addr).add 3) (.int .i64 (r113.2.2.2.1)) fun vw119 =>
          St vw119 ((⟨vw2.heap.size, 0, none⟩ : Addr).add 4) (.string r113.2.2.2.2) fun vw120 =>
          Ld vw120 (⟨vw2.heap.size, 0, none⟩ : Addr) (Value.int .i64) fun (x121 : Int) =>
          Ld vw120 ((⟨vw2.heap.size, 0, none⟩ : Addr).add 1) (Value.int .i64) fun (x122 : Int) =>
          Ld vw120 ((⟨vw2.heap.size, 0, none⟩ : Addr).add 2) (Value.int .i64) fun (x123 : Int) =>
          Ld vw120 ((⟨vw2.heap.size, 0, none⟩ : Addr).add 3) (Value.int .i64) fun (x124 : Int) =>
          Ld vw120 ((⟨vw2.heap.size, 0, none⟩ : Addr).add 4) Value.string fun (x125 : ByteArray) =>
          R (x121, x122, x123, x124, x125) r114 vw120)) (C69 (bAt x88 s84.2.2) vw85 fun r126 vw127 =>
        C42 (bAt x88 s84.2.2) vw127 fun r128 vw129 =>
          Br r128 (I86 (s84.1, s84.2.1, IntKind.i64.wrap (s84.2.2 + 1)) vw129) (Br (decide (r126 < 0)) (C46 3 vw129 fun r130 r131 vw132 =>
                St vw132 (⟨vw2.heap.size, 0, none⟩ : Addr) (.int .i64 (r130.1)) fun vw133 =>
                St vw133 ((⟨vw2.heap.size, 0, none⟩ : Addr).add 1) (.int .i64 (r130.2.1)) fun vw134 =>
                St vw134 ((⟨vw2.heap.size, 0, none⟩ : Addr).add 2) (.int .i64 (r130.2.2.1)) fun vw135 =>
                St vw135 ((⟨vw2.heap.size, 0, none⟩ : Addr).add 3) (.int .i64 (r130.2.2.2.1)) fun vw136 =>
                St vw136 ((⟨vw2.heap.size, 0, none⟩ : Addr).add 4) (.string r130.2.2.2.2) fun vw137 =>
                Ld vw137 (⟨vw2.heap.size, 0, none⟩ : Addr) (Value.int .i64) fun (x138 : Int) =>
                Ld vw137 ((⟨vw2.heap.size, 0, none⟩ : Addr).add 1) (Value.int .i64) fun (x139 : Int) =>
                Ld vw137 ((⟨vw2.heap.size, 0, none⟩ : Addr).add 2) (Value.int .i64) fun (x140 : Int) =>
                Ld vw137 ((⟨vw2.heap.size, 0, none⟩ : Addr).add 3) (Value.int .i64) fun (x141 : Int) =>
                Ld vw137 ((⟨vw2.heap.size, 0, none⟩ : Addr).add 4) Value.string fun (x142 : ByteArray) =>
                R (x138, x139, x140, x141, x142) r131 vw137) (Br (decide (s84.2.1 < 0)) (I86 (s84.1, r126, IntKind.i64.wrap (s84.2.2 + 1)) vw129) (Nw vw129 (.cells #[.int .u8 (IntKind.u8.wrap (ior .i64 (IntKind.i64.wrap (s84.2.1 * 2 ^ 4)) r126))] 5) fun vw143 =>
                Rn Tryd.prog (Builtin.append_ #[56, 56] 56 #[Slc.v s84.1, Slc.v ((⟨some ⟨vw129.heap.size, 0, none⟩, 1, 1⟩ : Slc))]) vw143 Slc.v fun (x144 : Slc) vw145 =>
                I86 (x144, (-1), IntKind.i64.wrap (s84.2.2 + 1)) vw145))))) (C46 4 vw85 fun r146 r147 vw148 =>
      St vw148 (⟨vw2.heap.size, 0, none⟩ : Addr) (.int .i64 (r146.1)) fun vw149 =>
      St vw149 ((⟨vw2.heap.size, 0, none⟩ : Addr).add 1) (.int .i64 (r146.2.1)) fun vw150 =>
      St vw150 ((⟨vw2.heap.size, 0, none⟩ : Addr).add 2) (.int .i64 (r146.2.2.1)) fun vw151 =>
      St vw151 ((⟨vw2.heap.size, 0, none⟩ : Addr).add 3) (.int .i64 (r146.2.2.2.1)) fun vw152 =>
      St vw152 ((⟨vw2.heap.size, 0, none⟩ : Addr).add 4) (.string r146.2.2.2.2) fun vw153 =>
      Ld vw153 (⟨vw2.heap.size, 0, none⟩ : Addr) (Value.int .i64) fun (x154 : Int) =>
      Ld vw153 ((⟨vw2.heap.size, 0, none⟩ : Addr).add 1) (Value.int .i64) fun (x155 : Int) =>
      Ld vw153 ((⟨vw2.heap.size, 0, none⟩ : Addr).add 2) (Value.int .i64) fun (x156 : Int) =>
      Ld vw153 ((⟨vw2.heap.size, 0, none⟩ : Addr).add 3) (Value.int .i64) fun (x157 : Int) =>
      Ld vw153 ((⟨vw2.heap.size, 0, none⟩ : Addr).add 4) Value.string fun (x158 : ByteArray) =>
      R (x154, x155, x156, x157, x158) r147 vw153)
/-- (foliant/lex.cutter).hex -/
def S49 (c1 : ByteArray × Int) (w : World) (R : (Int × Int × Int × Int × ByteArray) → Int → World → Prop) : Prop :=
  Nw w (.cells #[.string c1.1, .int .i64 (c1.2)] 81) fun vw2 =>
  Nw vw2 (.cells #[.int .i64 0, .int .i64 0, .int .i64 0, .int .i64 0, .string ((⟨#[]⟩ : ByteArray))] 32) fun vw3 =>
  Ld vw3 ((⟨w.heap.size, 0, none⟩ : Addr).add 1) (Value.int .i64) fun (x83 : Int) =>
  Lp (σ := Slc × Int × Int) (S49L1 w vw2 R) ((⟨none, 0, 0⟩ : Slc), (-1), IntKind.i64.wrap (x83 + 1)) vw3
def pl49 : Plan := (.seq (.reg .seq) (.seq (.reg .seq) (.seq (.reg .seq) (.seq (.seq (.reg .seq) (.block (.loop [(4, (.one .slc)), (5, (.one (.int .i64))), (6, (.one (.int .i64)))] [1, 2] (.seq (.seq (.reg .seq) (.cond .leaf .leaf)) (.seq (.block (.seq (.reg .seq) (.seq (.seq (.reg .seq) (.cond (.seq (.seq (.reg .seq) (.cond (.reg .seq) .leaf)) (.seq (.reg .seq) .leaf)) .leaf)) (.seq (.reg .seq) (.block (.seq (.reg .seq) (.cond .leaf (.seq (.reg .seq) (.cond (.seq (.reg .seq) .leaf) (.seq (.reg .seq) (.cond (.reg .seq) (.seq (.reg .seq) (.reg .seq))))))))))))) (.reg .seq)))))) (.seq (.reg .seq) .leaf)))))
set_option maxRecDepth 100000 in
theorem T49 (c1 : ByteArray × Int) (w : World) (R : (Int × Int × Int × Int × ByteArray) → Int → World → Prop) (h : S49 c1 w R) : C49 (c1.1, c1.2) w R := by
  have e : fnT Tryd.prog ⟨FF, MAY, (fun _ _ => False)⟩ pl49 Tryd.f49 [.agg #[.string c1.1, .int .i64 (c1.2)]] w [(.agg [(.int .i64), (.int .i64), (.int .i64), (.int .i64), .str]), (.one (.int .i64))] (fun s w => R s.1 s.2 w) = S49 c1 w R := by kernel_rfl
  exact (fn_calls okF okM Tryd.func49 (by kernel_rfl) (by kernel_rfl) (e.mpr h)).mono fun _ _ ⟨s, he, hR⟩ => ⟨s.1, s.2, he, hR⟩

def S70L1 (w : World) (R : Int → World → Prop) (I6 : Int → World → Prop) (s4 : Int) (vw5 : World) : Prop :=
  Ld vw5 (⟨w.heap.size, 0, none⟩ : Addr) Value.string fun (x7 : ByteArray) =>
  Br (decide (s4 < (((x7).size : Nat) : Int))) (Ld vw5 (⟨w.heap.size, 0, none⟩ : Addr) Value.string fun (x8 : ByteArray) =>
    0 ≤ s4 ∧ s4 < ((x8).size : Nat) ∧ C28 (bAt x8 s4) vw5 fun r9 vw10 =>
      Br r9 (I6 (IntKind.i64.wrap (s4 + 1)) vw10) (R s4 vw10)) (R s4 vw5)
/-- (foliant/lex.cutter).run -/
def S70 (c1 : ByteArray × Int) (vfrom2 : Int) (w : World) (R : Int → World → Prop) : Prop :=
  Nw w (.cells #[.string c1.1, .int .i64 (c1.2)] 81) fun vw3 =>
  Lp (σ := Int) (S70L1 w R) vfrom2 vw3
def pl70 : Plan := (.seq (.reg .seq) (.seq (.block (.loop [(1, (.one (.int .i64)))] [2] (.seq (.seq (.reg .seq) (.cond .leaf .leaf)) (.block (.reg .seq))))) (.seq (.reg .seq) .leaf)))
set_option maxRecDepth 100000 in
theorem T70 (c1 : ByteArray × Int) (vfrom2 : Int) (w : World) (R : Int → World → Prop) (h : S70 c1 vfrom2 w R) : C70 (c1.1, c1.2) vfrom2 w R := by
  have e : fnT Tryd.prog ⟨FF, MAY, (fun _ _ => False)⟩ pl70 Tryd.f70 [.agg #[.string c1.1, .int .i64 (c1.2)], .int .i64 vfrom2] w [(.one (.int .i64))] (fun s w => R s w) = S70 c1 vfrom2 w R := by kernel_rfl
  exact (fn_calls okF okM Tryd.func70 (by kernel_rfl) (by kernel_rfl) (e.mpr h)).mono fun _ _ ⟨s, he, hR⟩ => ⟨s, he, hR⟩

def S50L1 (w : World) (vw2 : World) (r7 : Int) (R : (Int × Int × Int × Int × ByteArray) → Int → World → Prop) (I75 : (Slc × Int) → World → Prop) (s73 : Slc × Int) (vw74 : World) : Prop :=
  Br (decide (s73.2 < r7)) (Ld vw74 (⟨w.heap.size, 0, none⟩ : Addr) Value.string fun (x76 : ByteArray) =>
    0 ≤ s73.2 ∧ s73.2 < ((x76).size : Nat) ∧ Br ((bAt x76 s73.2) == 35) (Br (decide ((IntKind.i64.wrap (s73.2 + 2)) ≥ r7)) (C46 3 vw74 fun r77 r78 vw79 =>
          St vw79 (⟨vw2.heap.size, 0, none⟩ : Addr) (.int .i64 (r77.1)) fun vw80 =>
          St vw80 ((⟨vw2.heap.size, 0, none⟩ : Addr).add 1) (.int .i64 (r77.2.1)) fun vw81 =>
          St vw81 ((⟨vw2.heap.size, 0, none⟩ : Addr).add 2) (.int .i64 (r77.2.2.1)) fun vw82 =>
          St vw82 ((⟨vw2.heap.size, 0, none⟩ : Addr).add 3) (.int .i64 (r77.2.2.2.1)) fun vw83 =>
          St vw83 ((⟨vw2.heap.size, 0, none⟩ : Addr).add 4) (.string r77.2.2.2.2) fun vw84 =>
          Ld vw84 (⟨vw2.heap.size, 0, none⟩ : Addr) (Value.int .i64) fun (x85 : Int) =>
          Ld vw84 ((⟨vw2.heap.size, 0, none⟩ : Addr).add 1) (Value.int .i64) fun (x86 : Int) =>
          Ld vw84 ((⟨vw2.heap.size, 0, none⟩ : Addr).add 2) (Value.int .i64) fun (x87 : Int) =>
          Ld vw84 ((⟨vw2.heap.size, 0, none⟩ : Addr).add 3) (Value.int .i64) fun (x88 : Int) =>
          Ld vw84 ((⟨vw2.heap.size, 0, none⟩ : Addr).add 4) Value.string fun (x89 : ByteArray) =>
          R (x85, x86, x87, x88, x89) r78 vw84) (Ld vw74 (⟨w.heap.size, 0, none⟩ : Addr) Value.string fun (x90 : ByteArray) =>
        0 ≤ (IntKind.i64.wrap (s73.2 + 3)) ∧ (IntKind.i64.wrap (s73.2 + 3)) ≤ (((x90).size : Nat) : Int) ∧ 0 ≤ (IntKind.i64.wrap (s73.2 + 1)) ∧ (IntKind.i64.wrap (s73.2 + 1)) ≤ (((IntKind.i64.wrap (s73.2 + 3)).toNat : Nat) : Int) ∧ C71 (x90.extract ((IntKind.i64.wrap (s73.2 + 1)).toNat) ((IntKind.i64.wrap (s73.2 + 3)).toNat)) vw74 fun r91 r92 vw93 =>
          Br (r92 != 0) (C46 3 vw93 fun r94 r95 vw96 =>
              St vw96 (⟨vw2.heap.size, 0, none⟩ : Addr) (.int .i64 (r94.1)) fun vw97 =>
              St vw97 ((⟨vw2.heap.size, 0, none⟩ : Addr).add 1) (.int .i64 (r94.2.1)) fun vw98 =>
              St vw98 ((⟨vw2.heap.size, 0, none⟩ : Addr).add 2) (.int .i64 (r94.2.2.1)) fun vw99 =>
              St vw99 ((⟨vw2.heap.size, 0, none⟩ : Addr).add 3) (.int .i64 (r94.2.2.2.1)) fun vw100 =>
              St vw100 ((⟨vw2.heap.size, 0, none⟩ : Addr).add 4) (.string r94.2.2.2.2) fun vw101 =>
              Ld vw101 (⟨vw2.heap.size, 0, none⟩ : Addr) (Value.int .i64) fun (x102 : Int) =>
              Ld vw101 ((⟨vw2.heap.size, 0, none⟩ : Addr).add 1) (Value.int .i64) fun (x103 : Int) =>
              Ld vw101 ((⟨vw2.heap.size, 0, none⟩ : Addr).add 2) (Value.int .i64) fun (x104 : Int) =>
              Ld vw101 ((⟨vw2.heap.size, 0, none⟩ : Addr).add 3) (Value.int .i64) fun (x105 : Int) =>
              Ld vw101 ((⟨vw2.heap.size, 0, none⟩ : Addr).add 4) Value.string fun (x106 : ByteArray) =>
              R (x102, x103, x104, x105, x106) r95 vw101) (Br (r91.toList == (⟨#[0]⟩ : ByteArray).toList) (C46 3 vw93 fun r107 r108 vw109 =>
                St vw109 (⟨vw2.heap.size, 0, none⟩ : Addr) (.int .i64 (r107.1)) fun vw110 =>
                St vw110 ((⟨vw2.heap.size, 0, none⟩ : Addr).add 1) (.int .i64 (r107.2.1)) fun vw111 =>
                St vw111 ((⟨vw2.heap.size, 0, none⟩ : Addr).add 2) (.int .i64 (r107.2.2.1)) fun vw112 =>
                St vw112 ((⟨vw2.heap.size, 0, none⟩ : Addr).add 3) (.int .i64 (r107.2.2.2.1)) fun vw113 =>
                St vw113 ((⟨vw2.heap.size, 0, none⟩ : Addr).add 4) (.string r107.2.2.2.2) fun vw114 =>
                Ld vw114 (⟨vw2.heap.size, 0, none⟩ : Addr) (Value.int .i64) fun (x115 : Int) =>
                Ld vw114 ((⟨vw2.heap.size, 0, none⟩ : Addr).add 1) (Value.int .i64) fun (x116 : Int) =>
                Ld vw114 ((⟨vw2.heap.size, 0, none⟩ : Addr).add 2) (Value.int .i64) fun (x117 : Int) =>
                Ld vw114 ((⟨vw2.heap.size, 0, none⟩ : Addr).add 3) (Value.int .i64) fun (x118 : Int) =>
                Ld vw114 ((⟨vw2.heap.size, 0, none⟩ : Addr).add 4) Value.string fun (x119 : ByteArray) =>
                R (x115, x116, x117, x118, x119) r108 vw114) (0 ≤ (0 : Int) ∧ (0 : Int) < ((r91).size : Nat) ∧ Nw vw93 (.cells #[.int .u8 (bAt r91 0)] 5) fun vw120 =>
              Rn Tryd.prog (Builtin.append_ #[56, 56] 56 #[Slc.v s73.1, Slc.v ((⟨some ⟨vw93.heap.size, 0, none⟩, 1, 1⟩ : Slc))]) vw120 Slc.v fun (x121 : Slc) vw122 =>
              I75 (x121, IntKind.i64.wrap ((IntKind.i64.wrap (s73.2 + 2)) + 1)) vw122)))) (Nw vw74 (.cells #[.int .u8 (bAt x76 s73.2)] 5) fun vw123 =>
      Rn Tryd.prog (Builtin.append_ #[56, 56] 56 #[Slc.v s73.1, Slc.v ((⟨some ⟨vw74.heap.size, 0, none⟩, 1, 1⟩ : Slc))]) vw123 Slc.v fun (x124 : Slc) vw125 =>
      I75 (x124, IntKind.i64.wrap (s73.2 + 1)) vw125)) (Ld vw74 (⟨w.heap.size, 0, none⟩ : Addr) Value.string fun (x126 : ByteArray) =>
    Ld vw74 ((⟨w.heap.size, 0, none⟩ : Addr).add 1) (Value.int .i64) fun (x127 : Int) =>
    Rn Tryd.prog (convert 56 9 (Slc.v s73.1)) vw74 Value.string fun (x128 : ByteArray) vw129 =>
    C68 (x126, x127) 4 r7 x128 127 vw129 fun r130 r131 vw132 =>
      St vw132 (⟨vw2.heap.size, 0, none⟩ : Addr) (.int .i64 (r130.1)) fun vw133 =>
      St vw133 ((⟨vw2.heap.size, 0, none⟩ : Addr).add 1) (.int .i64 (r130.2.1)) fun vw134 =>
      St vw134 ((⟨vw2.heap.size, 0, none⟩ : Addr).add 2) (.int .i64 (r130.2.2.1)) fun vw135 =>
      St vw135 ((⟨vw2.heap.size, 0, none⟩ : Addr).add 3) (.int .i64 (r130.2.2.2.1)) fun vw136 =>
      St vw136 ((⟨vw2.heap.size, 0, none⟩ : Addr).add 4) (.string r130.2.2.2.2) fun vw137 =>
      Ld vw137 (⟨vw2.heap.size, 0, none⟩ : Addr) (Value.int .i64) fun (x138 : Int) =>
      Ld vw137 ((⟨vw2.heap.size, 0, none⟩ : Addr).add 1) (Value.int .i64) fun (x139 : Int) =>
      Ld vw137 ((⟨vw2.heap.size, 0, none⟩ : Addr).add 2) (Value.int .i64) fun (x140 : Int) =>
      Ld vw137 ((⟨vw2.heap.size, 0, none⟩ : Addr).add 3) (Value.int .i64) fun (x141 : Int) =>
      Ld vw137 ((⟨vw2.heap.size, 0, none⟩ : Addr).add 4) Value.string fun (x142 : ByteArray) =>
      R (x138, x139, x140, x141, x142) r131 vw137)
/-- (foliant/lex.cutter).name -/
def S50 (c1 : ByteArray × Int) (w : World) (R : (Int × Int × Int × Int × ByteArray) → Int → World → Prop) : Prop :=
  Nw w (.cells #[.string c1.1, .int .i64 (c1.2)] 81) fun vw2 =>
  Nw vw2 (.cells #[.int .i64 0, .int .i64 0, .int .i64 0, .int .i64 0, .string ((⟨#[]⟩ : ByteArray))] 32) fun vw3 =>
  Ld vw3 (⟨w.heap.size, 0, none⟩ : Addr) Value.string fun (x4 : ByteArray) =>
  Ld vw3 ((⟨w.heap.size, 0, none⟩ : Addr).add 1) (Value.int .i64) fun (x5 : Int) =>
  Ld vw3 ((⟨w.heap.size, 0, none⟩ : Addr).add 1) (Value.int .i64) fun (x6 : Int) =>
  C70 (x4, x5) (IntKind.i64.wrap (x6 + 1)) vw3 fun r7 vw8 =>
    Ld vw8 ((⟨w.heap.size, 0, none⟩ : Addr).add 1) (Value.int .i64) fun (x72 : Int) =>
    Lp (σ := Slc × Int) (S50L1 w vw2 r7 R) ((⟨none, 0, 0⟩ : Slc), IntKind.i64.wrap (x72 + 1)) vw8
def pl50 : Plan := (.seq (.reg .seq) (.seq (.reg .seq) (.seq (.reg .seq) (.seq (.seq (.reg .seq) (.block (.loop [(5, (.one .slc)), (6, (.one (.int .i64)))] [1, 2, 4] (.seq (.seq (.reg .seq) (.cond .leaf .leaf)) (.seq (.block (.seq (.reg .seq) (.seq (.seq (.reg .seq) (.cond (.seq (.seq (.reg .seq) (.cond (.seq (.reg .seq) .leaf) .leaf)) (.seq (.reg .seq) (.seq (.seq (.reg .seq) (.cond (.seq (.reg .seq) .leaf) .leaf)) (.seq (.reg .seq) (.reg .seq))))) .leaf)) (.reg .seq)))) (.reg .seq)))))) (.seq (.reg .seq) .leaf)))))
set_option maxRecDepth 100000 in
theorem T50 (c1 : ByteArray × Int) (w : World) (R : (Int × Int × Int × Int × ByteArray) → Int → World → Prop) (h : S50 c1 w R) : C50 (c1.1, c1.2) w R := by
  have e : fnT Tryd.prog ⟨FF, MAY, (fun _ _ => False)⟩ pl50 Tryd.f50 [.agg #[.string c1.1, .int .i64 (c1.2)]] w [(.agg [(.int .i64), (.int .i64), (.int .i64), (.int .i64), .str]), (.one (.int .i64))] (fun s w => R s.1 s.2 w) = S50 c1 w R := by kernel_rfl
  exact (fn_calls okF okM Tryd.func50 (by kernel_rfl) (by kernel_rfl) (e.mpr h)).mono fun _ _ ⟨s, he, hR⟩ => ⟨s.1, s.2, he, hR⟩

/-- (foliant/lex.cutter).end -/
def S72 (c1 : ByteArray × Int) (vat2 : Int) (w : World) (R : Int → Bool → World → Prop) : Prop :=
  Nw w (.cells #[.string c1.1, .int .i64 (c1.2)] 81) fun vw3 =>
  Ld vw3 (⟨w.heap.size, 0, none⟩ : Addr) Value.string fun (x4 : ByteArray) =>
  0 ≤ vat2 ∧ vat2 < ((x4).size : Nat) ∧ Br ((bAt x4 vat2) == 13) (Ld vw3 (⟨w.heap.size, 0, none⟩ : Addr) Value.string fun (x5 : ByteArray) =>
    C87 x5 vat2 vw3 fun r6 vw7 =>
      R r6 true vw7) (Ld vw3 (⟨w.heap.size, 0, none⟩ : Addr) Value.string fun (x8 : ByteArray) =>
    0 ≤ vat2 ∧ vat2 < ((x8).size : Nat) ∧ Br ((bAt x8 vat2) == 10) (Ld vw3 (⟨w.heap.size, 0, none⟩ : Addr) Value.string fun (x9 : ByteArray) =>
      C87 x9 vat2 vw3 fun r10 vw11 =>
        R r10 true vw11) (R vat2 false vw3))
def pl72 : Plan := (.seq (.reg .seq) (.seq (.seq (.reg .seq) (.cond (.seq (.reg .seq) .leaf) .leaf)) (.seq (.reg .seq) .leaf)))
set_option maxRecDepth 100000 in
theorem T72 (c1 : ByteArray × Int) (vat2 : Int) (w : World) (R : Int → Bool → World → Prop) (h : S72 c1 vat2 w R) : C72 (c1.1, c1.2) vat2 w R := by
  have e : fnT Tryd.prog ⟨FF, MAY, (fun _ _ => False)⟩ pl72 Tryd.f72 [.agg #[.string c1.1, .int .i64 (c1.2)], .int .i64 vat2] w [(.one (.int .i64)), (.one .bool)] (fun s w => R s.1 s.2 w) = S72 c1 vat2 w R := by kernel_rfl
  exact (fn_calls okF okM Tryd.func72 (by kernel_rfl) (by kernel_rfl) (e.mpr h)).mono fun _ _ ⟨s, he, hR⟩ => ⟨s.1, s.2, he, hR⟩

def S73J1 (w : World) (vat2 : Int) (R : ByteArray → Int → World → Prop) (s33 : Int × Int) (vw34 : World) : Prop :=
  Br (decide (s33.2 > vat2)) (Nw vw34 (.cells #[.int .u8 (IntKind.u8.wrap s33.1)] 5) fun vw38 =>
    Rn Tryd.prog (convert 56 9 (Slc.v ((⟨some ⟨vw34.heap.size, 0, none⟩, 1, 1⟩ : Slc)))) vw38 Value.string fun (x39 : ByteArray) vw40 =>
    R x39 s33.2 vw40) (Ld vw34 (⟨w.heap.size, 0, none⟩ : Addr) Value.string fun (x41 : ByteArray) =>
    0 ≤ (IntKind.i64.wrap (vat2 + 1)) ∧ (IntKind.i64.wrap (vat2 + 1)) ≤ (((x41).size : Nat) : Int) ∧ 0 ≤ vat2 ∧ vat2 ≤ (((IntKind.i64.wrap (vat2 + 1)).toNat : Nat) : Int) ∧ R (x41.extract ((vat2).toNat) ((IntKind.i64.wrap (vat2 + 1)).toNat)) (IntKind.i64.wrap (vat2 + 1)) vw34)
def S73L1 (w : World) (vat2 : Int) (vJ42 : (Int × Int) → World → Prop) (I45 : (Int × Int) → World → Prop) (s43 : Int × Int) (vw44 : World) : Prop :=
  Ld vw44 (⟨w.heap.size, 0, none⟩ : Addr) Value.string fun (x46 : ByteArray) =>
  Br (decide (s43.2 < (((x46).size : Nat) : Int))) (Br (decide (s43.2 < (IntKind.i64.wrap (vat2 + 3)))) (Ld vw44 (⟨w.heap.size, 0, none⟩ : Addr) Value.string fun (x47 : ByteArray) =>
      0 ≤ s43.2 ∧ s43.2 < ((x47).size : Nat) ∧ Br (decide ((bAt x47 s43.2) ≥ 48)) (Ld vw44 (⟨w.heap.size, 0, none⟩ : Addr) Value.string fun (x48 : ByteArray) =>
        0 ≤ s43.2 ∧ s43.2 < ((x48).size : Nat) ∧ Br (decide ((bAt x48 s43.2) ≤ 55)) (Ld vw44 (⟨w.heap.size, 0, none⟩ : Addr) Value.string fun (x49 : ByteArray) =>
          0 ≤ s43.2 ∧ s43.2 < ((x49).size : Nat) ∧ Lt (IntKind.i64.wrap ((IntKind.i64.wrap (8 * s43.1)) + (IntKind.i64.wrap (IntKind.u8.wrap ((bAt x49 s43.2) - 48))))) fun (x50 : Int) =>
          I45 (x50, IntKind.i64.wrap (s43.2 + 1)) vw44) (vJ42 (s43.1, s43.2) vw44)) (vJ42 (s43.1, s43.2) vw44)) (vJ42 (s43.1, s43.2) vw44)) (vJ42 (s43.1, s43.2) vw44)
/-- (foliant/lex.cutter).escaped -/
def S73 (c1 : ByteArray × Int) (vat2 : Int) (w : World) (R : ByteArray → Int → World → Prop) : Prop :=
  Nw w (.cells #[.string c1.1, .int .i64 (c1.2)] 81) fun vw3 =>
  Ld vw3 (⟨w.heap.size, 0, none⟩ : Addr) Value.string fun (x8 : ByteArray) =>
  0 ≤ vat2 ∧ vat2 < ((x8).size : Nat) ∧ C22 (⟨#[110, 114, 116, 98, 102]⟩ : ByteArray) (bAt x8 vat2) vw3 fun r9 vw10 =>
    Br (decide (r9 ≥ 0)) (0 ≤ (IntKind.i64.wrap (r9 + 1)) ∧ (IntKind.i64.wrap (r9 + 1)) ≤ ((((⟨#[10, 13, 9, 8, 12]⟩ : ByteArray)).size : Nat) : Int) ∧ 0 ≤ r9 ∧ r9 ≤ (((IntKind.i64.wrap (r9 + 1)).toNat : Nat) : Int) ∧ Lt ((⟨#[10, 13, 9, 8, 12]⟩ : ByteArray).extract ((r9).toNat) ((IntKind.i64.wrap (r9 + 1)).toNat)) fun (x11 : ByteArray) =>
      R x11 (IntKind.i64.wrap (vat2 + 1)) vw10) (Ld vw10 (⟨w.heap.size, 0, none⟩ : Addr) Value.string fun (x17 : ByteArray) =>
      Ld vw10 ((⟨w.heap.size, 0, none⟩ : Addr).add 1) (Value.int .i64) fun (x18 : Int) =>
      C72 (x17, x18) vat2 vw10 fun r19 r20 vw21 =>
        Br r20 (R (⟨#[]⟩ : ByteArray) r19 vw21) (Join (S73J1 w vat2 R) fun (vJ42 : (Int × Int) → World → Prop) =>
            Lp (σ := Int × Int) (S73L1 w vat2 vJ42) (0, vat2) vw21))
def pl73 : Plan := (.seq (.reg .seq) (.seq (.seq (.reg .seq) (.seq (.reg .seq) (.cond (.seq (.reg .seq) .leaf) .leaf))) (.seq (.seq (.reg .seq) (.seq (.reg .seq) (.cond (.seq (.reg .seq) .leaf) .leaf))) (.seq (.reg .seq) (.join [(9, (.one (.int .i64))), (10, (.one (.int .i64)))] [1, 2] (.block (.loop [(9, (.one (.int .i64))), (10, (.one (.int .i64)))] [1, 2] (.seq (.seq (.reg .seq) (.cond .leaf .leaf)) (.block (.seq (.reg .seq) (.reg .seq)))))) (.seq (.seq (.reg .seq) (.cond (.seq (.reg .seq) .leaf) .leaf)) (.seq (.reg .seq) .leaf)))))))
set_option maxRecDepth 100000 in
theorem T73 (c1 : ByteArray × Int) (vat2 : Int) (w : World) (R : ByteArray → Int → World → Prop) (h : S73 c1 vat2 w R) : C73 (c1.1, c1.2) vat2 w R := by
  have e : fnT Tryd.prog ⟨FF, MAY, (fun _ _ => False)⟩ pl73 Tryd.f73 [.agg #[.string c1.1, .int .i64 (c1.2)], .int .i64 vat2] w [(.one .str), (.one (.int .i64))] (fun s w => R s.1 s.2 w) = S73 c1 vat2 w R := by kernel_rfl
  exact (fn_calls okF okM Tryd.func73 (by kernel_rfl) (by kernel_rfl) (e.mpr h)).mono fun _ _ ⟨s, he, hR⟩ => ⟨s.1, s.2, he, hR⟩

def S51J1 (w : World) (vw2 : World) (vw3 : World) (I105 : (Int × Int) → World → Prop) (R : (Int × Int × Int × Int × ByteArray) → Int → World → Prop) (s114 : Int × Int) (vw115 : World) : Prop :=
  Br (s114.1 == 0) (∃ vS116 : World → Prop, vS116 vw115.drew ∧ LdS vS116 (⟨w.heap.size, 0, none⟩ : Addr) Value.string fun (x117 : ByteArray) =>
    LdS vS116 ((⟨w.heap.size, 0, none⟩ : Addr).add 1) (Value.int .i64) fun (x118 : Int) =>
    C29 (some (⟨vw3.heap.size, 0, none⟩ : Addr)) vw115.drew fun r119 vw120 =>
      vS116 vw120 ∧ C68 (x117, x118) 3 (IntKind.i64.wrap (s114.2 + 1)) r119 32767 vw120 fun r121 r122 vw123 =>
        St vw123 (⟨vw2.heap.size, 0, none⟩ : Addr) (.int .i64 (r121.1)) fun vw124 =>
        St vw124 ((⟨vw2.heap.size, 0, none⟩ : Addr).add 1) (.int .i64 (r121.2.1)) fun vw125 =>
        St vw125 ((⟨vw2.heap.size, 0, none⟩ : Addr).add 2) (.int .i64 (r121.2.2.1)) fun vw126 =>
        St vw126 ((⟨vw2.heap.size, 0, none⟩ : Addr).add 3) (.int .i64 (r121.2.2.2.1)) fun vw127 =>
        St vw127 ((⟨vw2.heap.size, 0, none⟩ : Addr).add 4) (.string r121.2.2.2.2) fun vw128 =>
        Ld vw128 (⟨vw2.heap.size, 0, none⟩ : Addr) (Value.int .i64) fun (x129 : Int) =>
        Ld vw128 ((⟨vw2.heap.size, 0, none⟩ : Addr).add 1) (Value.int .i64) fun (x130 : Int) =>
        Ld vw128 ((⟨vw2.heap.size, 0, none⟩ : Addr).add 2) (Value.int .i64) fun (x131 : Int) =>
        Ld vw128 ((⟨vw2.heap.size, 0, none⟩ : Addr).add 3) (Value.int .i64) fun (x132 : Int) =>
        Ld vw128 ((⟨vw2.heap.size, 0, none⟩ : Addr).add 4) Value.string fun (x133 : ByteArray) =>
        R (x129, x130, x131, x132, x133) r122 vw128) (Ld vw115 (⟨w.heap.size, 0, none⟩ : Addr) Value.string fun (x134 : ByteArray) =>
    0 ≤ s114.2 ∧ s114.2 < ((x134).size : Nat) ∧ C21 (some (⟨vw3.heap.size, 0, none⟩ : Addr)) (bAt x134 s114.2) vw115 fun r135 vw136 =>
      I105 (s114.1, IntKind.i64.wrap (s114.2 + 1)) vw136)
def S51L1 (w : World) (vw2 : World) (vw3 : World) (R : (Int × Int × Int × Int × ByteArray) → Int → World → Prop) (I105 : (Int × Int) → World → Prop) (s103 : Int × Int) (vw104 : World) : Prop :=
  Ld vw104 (⟨w.heap.size, 0, none⟩ : Addr) Value.string fun (x106 : ByteArray) =>
  Br (decide (s103.2 < (((x106).size : Nat) : Int))) (Ld vw104 (⟨w.heap.size, 0, none⟩ : Addr) Value.string fun (x107 : ByteArray) =>
    Ld vw104 ((⟨w.heap.size, 0, none⟩ : Addr).add 1) (Value.int .i64) fun (x108 : Int) =>
    C72 (x107, x108) s103.2 vw104 fun r109 r110 vw111 =>
      Br r110 (C21 (some (⟨vw3.heap.size, 0, none⟩ : Addr)) 10 vw111 fun r112 vw113 =>
          I105 (s103.1, r109) vw113) (Join (S51J1 w vw2 vw3 I105 R) fun (vJ137 : (Int × Int) → World → Prop) =>
          Ld vw111 (⟨w.heap.size, 0, none⟩ : Addr) Value.string fun (x138 : ByteArray) =>
          0 ≤ s103.2 ∧ s103.2 < ((x138).size : Nat) ∧ Br ((bAt x138 s103.2) == 92) (Ld vw111 (⟨w.heap.size, 0, none⟩ : Addr) Value.string fun (x139 : ByteArray) =>
            Br ((IntKind.i64.wrap (s103.2 + 1)) == (((x139).size : Nat) : Int)) (C46 4 vw111 fun r140 r141 vw142 =>
                St vw142 (⟨vw2.heap.size, 0, none⟩ : Addr) (.int .i64 (r140.1)) fun vw143 =>
                St vw143 ((⟨vw2.heap.size, 0, none⟩ : Addr).add 1) (.int .i64 (r140.2.1)) fun vw144 =>
                St vw144 ((⟨vw2.heap.size, 0, none⟩ : Addr).add 2) (.int .i64 (r140.2.2.1)) fun vw145 =>
                St vw145 ((⟨vw2.heap.size, 0, none⟩ : Addr).add 3) (.int .i64 (r140.2.2.2.1)) fun vw146 =>
                St vw146 ((⟨vw2.heap.size, 0, none⟩ : Addr).add 4) (.string r140.2.2.2.2) fun vw147 =>
                Ld vw147 (⟨vw2.heap.size, 0, none⟩ : Addr) (Value.int .i64) fun (x148 : Int) =>
                Ld vw147 ((⟨vw2.heap.size, 0, none⟩ : Addr).add 1) (Value.int .i64) fun (x149 : Int) =>
                Ld vw147 ((⟨vw2.heap.size, 0, none⟩ : Addr).add 2) (Value.int .i64) fun (x150 : Int) =>
                Ld vw147 ((⟨vw2.heap.size, 0, none⟩ : Addr).add 3) (Value.int .i64) fun (x151 : Int) =>
                Ld vw147 ((⟨vw2.heap.size, 0, none⟩ : Addr).add 4) Value.string fun (x152 : ByteArray) =>
                R (x148, x149, x150, x151, x152) r141 vw147) (Ld vw111 (⟨w.heap.size, 0, none⟩ : Addr) Value.string fun (x153 : ByteArray) =>
              Ld vw111 ((⟨w.heap.size, 0, none⟩ : Addr).add 1) (Value.int .i64) fun (x154 : Int) =>
              C73 (x153, x154) (IntKind.i64.wrap (s103.2 + 1)) vw111 fun r155 r156 vw157 =>
                C25 (some (⟨vw3.heap.size, 0, none⟩ : Addr)) r155 vw157 fun r158 r159 vw160 =>
                  I105 (s103.1, r156) vw160)) (Br ((bAt x138 s103.2) == 40) (vJ137 (IntKind.i64.wrap (s103.1 + 1), s103.2) vw111) (Br ((bAt x138 s103.2) == 41) (vJ137 (IntKind.i64.wrap (s103.1 - 1), s103.2) vw111) (vJ137 (s103.1, s103.2) vw111))))) (C46 4 vw104 fun r161 r162 vw163 =>
      St vw163 (⟨vw2.heap.size, 0, none⟩ : Addr) (.int .i64 (r161.1)) fun vw164 =>
      St vw164 ((⟨vw2.heap.size, 0, none⟩ : Addr).add 1) (.int .i64 (r161.2.1)) fun vw165 =>
      St vw165 ((⟨vw2.heap.size, 0, none⟩ : Addr).add 2) (.int .i64 (r161.2.2.1)) fun vw166 =>
      St vw166 ((⟨vw2.heap.size, 0, none⟩ : Addr).add 3) (.int .i64 (r161.2.2.2.1)) fun vw167 =>
      St vw167 ((⟨vw2.heap.size, 0, none⟩ : Addr).add 4) (.string r161.2.2.2.2) fun vw168 =>
      Ld vw168 (⟨vw2.heap.size, 0, none⟩ : Addr) (Value.int .i64) fun (x169 : Int) =>
      Ld vw168 ((⟨vw2.heap.size, 0, none⟩ : Addr).add 1) (Value.int .i64) fun (x170 : Int) =>
      Ld vw168 ((⟨vw2.heap.size, 0, none⟩ : Addr).add 2) (Value.int .i64) fun (x171 : Int) =>
      Ld vw168 ((⟨vw2.heap.size, 0, none⟩ : Addr).add 3) (Value.int .i64) fun (x172 : Int) =>
      Ld vw168 ((⟨vw2.heap.size, 0, none⟩ : Addr).add 4) Value.string fun (x173 : ByteArray) =>
      R (x169, x170, x171, x172, x173) r162 vw168)
/-- (foliant/lex.cutter).text -/
def S51 (c1 : ByteArray × Int) (w : World) (R : (Int × Int × Int × Int × ByteArray) → Int → World → Prop) : Prop :=
  Nw w (.cells #[.string c1.1, .int .i64 (c1.2)] 81) fun vw2 =>
  Nw vw2 (.cells #[.int .i64 0, .int .i64 0, .int .i64 0, .int .i64 0, .string ((⟨#[]⟩ : ByteArray))] 32) fun vw3 =>
  Nw vw3 (.cells #[.pointer none, Slc.v ((⟨none, 0, 0⟩ : Slc))] 60) fun vw4 =>
  Ld vw4 ((⟨w.heap.size, 0, none⟩ : Addr).add 1) (Value.int .i64) fun (x102 : Int) =>
  Lp (σ := Int × Int) (S51L1 w vw2 vw3 R) (1, IntKind.i64.wrap (x102 + 1)) vw4
def pl51 : Plan := (.seq (.reg .seq) (.seq (.reg .seq) (.seq (.reg .seq) (.seq (.seq (.reg .seq) (.block (.loop [(5, (.one (.int .i64))), (6, (.one (.int .i64)))] [1, 2, 4] (.seq (.seq (.reg .seq) (.cond .leaf .leaf)) (.block (.seq (.seq (.reg .seq) (.seq (.reg .seq) (.cond (.seq (.reg .seq) (.seq (.reg .seq) .leaf)) .leaf))) (.join [(5, (.one (.int .i64))), (6, (.one (.int .i64)))] [1, 2, 4] (.seq (.reg .seq) (.seq (.reg .seq) (.block (.seq (.reg .seq) (.cond (.seq (.seq (.reg .seq) (.cond (.seq (.reg .seq) .leaf) .leaf)) (.seq (.reg .seq) (.seq (.reg .seq) (.seq (.reg .seq) .leaf)))) (.seq (.reg .seq) (.cond (.reg .seq) (.seq (.reg .seq) (.cond (.reg .seq) .leaf))))))))) (.seq (.seq (.reg .seq) (.cond (.seq (.reg (.held [4] (.take 0 (.take 1 (.take 2 (.eff 3 none (.eff 4 (some [7]) (.take 5 (.take 6 (.eff 7 (some []) (.take 8 .done))))))))))) .leaf) .leaf)) (.seq (.reg .seq) (.reg .seq)))))))))) (.seq (.reg .seq) .leaf)))))
set_option maxRecDepth 100000 in
theorem T51 (c1 : ByteArray × Int) (w : World) (R : (Int × Int × Int × Int × ByteArray) → Int → World → Prop) (h : S51 c1 w R) : C51 (c1.1, c1.2) w R := by
  have e : fnT Tryd.prog ⟨FF, MAY, (fun _ _ => False)⟩ pl51 Tryd.f51 [.agg #[.string c1.1, .int .i64 (c1.2)]] w [(.agg [(.int .i64), (.int .i64), (.int .i64), (.int .i64), .str]), (.one (.int .i64))] (fun s w => R s.1 s.2 w) = S51 c1 w R := by kernel_rfl
  exact (fn_calls okF okM Tryd.func51 (by kernel_rfl) (by kernel_rfl) (e.mpr h)).mono fun _ _ ⟨s, he, hR⟩ => ⟨s.1, s.2, he, hR⟩





/-- foliant/lex.class -/
def S74 (s1 : ByteArray) (w : World) (R : Int → World → Prop) : Prop :=
  C88 s1 (⟨#[43, 45]⟩ : ByteArray) w fun r2 vw3 =>
    Br (decide ((IntKind.i64.wrap ((((s1).size : Nat) : Int) - (((r2).size : Nat) : Int))) ≤ 1)) (Br (!(r2.toList == (⟨#[]⟩ : ByteArray).toList)) (C89 r2 (⟨#[48, 49, 50, 51, 52, 53, 54, 55, 56, 57]⟩ : ByteArray) vw3 fun r6 vw7 =>
          Br (r6.toList == (⟨#[]⟩ : ByteArray).toList) (R 1 vw7) (C90 s1 (⟨#[46]⟩ : ByteArray) vw7 fun r8 vw9 =>
              Br r8 (R 2 vw9) (R 0 vw9))) (C90 s1 (⟨#[46]⟩ : ByteArray) vw3 fun r10 vw11 =>
          Br r10 (R 2 vw11) (R 0 vw11))) (C90 s1 (⟨#[46]⟩ : ByteArray) vw3 fun r12 vw13 =>
        Br r12 (R 2 vw13) (R 0 vw13))
def pl74 : Plan := (.seq (.reg .seq) (.seq (.reg .seq) (.seq (.seq (.reg .seq) (.cond (.seq (.reg .seq) .leaf) .leaf)) (.seq (.seq (.reg .seq) (.cond (.seq (.reg .seq) .leaf) .leaf)) (.seq (.reg .seq) .leaf)))))
set_option maxRecDepth 100000 in
theorem T74 (s1 : ByteArray) (w : World) (R : Int → World → Prop) (h : S74 s1 w R) : C74 s1 w R := by
  have e : fnT Tryd.prog ⟨FF, MAY, (fun _ _ => False)⟩ pl74 Tryd.f74 [.string s1] w [(.one (.int .i64))] (fun s w => R s w) = S74 s1 w R := by kernel_rfl
  exact (fn_calls okF okM Tryd.func74 (by kernel_rfl) (by kernel_rfl) (e.mpr h)).mono fun _ _ ⟨s, he, hR⟩ => ⟨s, he, hR⟩

def S75L1 (s1 : ByteArray) (vw13 : World) (R : Int → Int → World → Prop) (I17 : Int → World → Prop) (s15 : Int) (vw16 : World) : Prop :=
  Nx vw16 (⟨vw13.heap.size, 0, none⟩ : Addr) (fun (i18 : Int) (ch19 : Int) (vw20 : World) =>
    Lt (IntKind.i64.wrap ((IntKind.i64.wrap (10 * s15)) + (IntKind.i64.wrap (IntKind.i32.wrap (ch19 - 48))))) fun (x21 : Int) =>
    I17 (if 2147483648 < x21 then 2147483648 else x21) vw20) (Br (decide (s15 > 2147483647)) (R 0 2 vw16) (0 ≤ (0 : Int) ∧ (0 : Int) < ((s1).size : Nat) ∧ Br ((bAt s1 0) == 45) (R (IntKind.i64.wrap (0 - s15)) 0 vw16) (R s15 0 vw16)))
/-- foliant/lex.whole -/
def S75 (s1 : ByteArray) (w : World) (R : Int → Int → World → Prop) : Prop :=
  C88 s1 (⟨#[43, 45]⟩ : ByteArray) w fun r12 vw13 =>
    Nw vw13 (.stringIter r12 0) fun vw14 =>
    Lp (σ := Int) (S75L1 s1 vw13 R) 0 vw14
def pl75 : Plan := (.seq (.reg .seq) (.seq (.reg .seq) (.seq (.seq (.reg .seq) (.block (.loop [(4, (.one (.int .i64)))] [0, 9] (.seq (.reg .seq) (.seq (.cond .leaf .leaf) (.block (.seq (.reg .seq) (.reg .seq)))))))) (.seq (.seq (.reg .seq) (.cond (.seq (.reg .seq) .leaf) .leaf)) (.seq (.seq (.reg .seq) (.cond (.reg .seq) .leaf)) (.seq (.reg .seq) .leaf))))))
set_option maxRecDepth 100000 in
theorem T75 (s1 : ByteArray) (w : World) (R : Int → Int → World → Prop) (h : S75 s1 w R) : C75 s1 w R := by
  have e : fnT Tryd.prog ⟨FF, MAY, (fun _ _ => False)⟩ pl75 Tryd.f75 [.string s1] w [(.one (.int .i64)), (.one (.int .i64))] (fun s w => R s.1 s.2 w) = S75 s1 w R := by kernel_rfl
  exact (fn_calls okF okM Tryd.func75 (by kernel_rfl) (by kernel_rfl) (e.mpr h)).mono fun _ _ ⟨s, he, hR⟩ => ⟨s.1, s.2, he, hR⟩

/-- (foliant/lex.cutter).word -/
def S52 (c1 : ByteArray × Int) (w : World) (R : (Int × Int × Int × Int × ByteArray) → Int → World → Prop) : Prop :=
  Nw w (.cells #[.string c1.1, .int .i64 (c1.2)] 81) fun vw2 =>
  Nw vw2 (.cells #[.int .i64 0, .int .i64 0, .int .i64 0, .int .i64 0, .string ((⟨#[]⟩ : ByteArray))] 32) fun vw3 =>
  Ld vw3 (⟨w.heap.size, 0, none⟩ : Addr) Value.string fun (x4 : ByteArray) =>
  Ld vw3 ((⟨w.heap.size, 0, none⟩ : Addr).add 1) (Value.int .i64) fun (x5 : Int) =>
  Ld vw3 ((⟨w.heap.size, 0, none⟩ : Addr).add 1) (Value.int .i64) fun (x6 : Int) =>
  C70 (x4, x5) x6 vw3 fun r7 vw8 =>
    Ld vw8 (⟨w.heap.size, 0, none⟩ : Addr) Value.string fun (x9 : ByteArray) =>
    Ld vw8 ((⟨w.heap.size, 0, none⟩ : Addr).add 1) (Value.int .i64) fun (x10 : Int) =>
    0 ≤ r7 ∧ r7 ≤ (((x9).size : Nat) : Int) ∧ 0 ≤ x10 ∧ x10 ≤ (((r7).toNat : Nat) : Int) ∧ C74 (x9.extract ((x10).toNat) ((r7).toNat)) vw8 fun r55 vw56 =>
      Br (r55 == 1) (C75 (x9.extract ((x10).toNat) ((r7).toNat)) vw56 fun r57 r58 vw59 =>
          Br (r58 != 0) (C46 r58 vw59 fun r60 r61 vw62 =>
              St vw62 (⟨vw2.heap.size, 0, none⟩ : Addr) (.int .i64 (r60.1)) fun vw63 =>
              St vw63 ((⟨vw2.heap.size, 0, none⟩ : Addr).add 1) (.int .i64 (r60.2.1)) fun vw64 =>
              St vw64 ((⟨vw2.heap.size, 0, none⟩ : Addr).add 2) (.int .i64 (r60.2.2.1)) fun vw65 =>
              St vw65 ((⟨vw2.heap.size, 0, none⟩ : Addr).add 3) (.int .i64 (r60.2.2.2.1)) fun vw66 =>
              St vw66 ((⟨vw2.heap.size, 0, none⟩ : Addr).add 4) (.string r60.2.2.2.2) fun vw67 =>
              Ld vw67 (⟨vw2.heap.size, 0, none⟩ : Addr) (Value.int .i64) fun (x68 : Int) =>
              Ld vw67 ((⟨vw2.heap.size, 0, none⟩ : Addr).add 1) (Value.int .i64) fun (x69 : Int) =>
              Ld vw67 ((⟨vw2.heap.size, 0, none⟩ : Addr).add 2) (Value.int .i64) fun (x70 : Int) =>
              Ld vw67 ((⟨vw2.heap.size, 0, none⟩ : Addr).add 3) (Value.int .i64) fun (x71 : Int) =>
              Ld vw67 ((⟨vw2.heap.size, 0, none⟩ : Addr).add 4) Value.string fun (x72 : ByteArray) =>
              R (x68, x69, x70, x71, x72) r61 vw67) (Ld vw59 ((⟨w.heap.size, 0, none⟩ : Addr).add 1) (Value.int .i64) fun (x73 : Int) =>
            St vw59 (⟨vw2.heap.size, 0, none⟩ : Addr) (.int .i64 1) fun vw74 =>
            St vw74 ((⟨vw2.heap.size, 0, none⟩ : Addr).add 1) (.int .i64 x73) fun vw75 =>
            St vw75 ((⟨vw2.heap.size, 0, none⟩ : Addr).add 2) (.int .i64 r7) fun vw76 =>
            St vw76 ((⟨vw2.heap.size, 0, none⟩ : Addr).add 3) (.int .i64 r57) fun vw77 =>
            St vw77 ((⟨vw2.heap.size, 0, none⟩ : Addr).add 4) (.string ((⟨#[]⟩ : ByteArray))) fun vw78 =>
            Ld vw78 (⟨vw2.heap.size, 0, none⟩ : Addr) (Value.int .i64) fun (x79 : Int) =>
            Ld vw78 ((⟨vw2.heap.size, 0, none⟩ : Addr).add 1) (Value.int .i64) fun (x80 : Int) =>
            Ld vw78 ((⟨vw2.heap.size, 0, none⟩ : Addr).add 2) (Value.int .i64) fun (x81 : Int) =>
            Ld vw78 ((⟨vw2.heap.size, 0, none⟩ : Addr).add 3) (Value.int .i64) fun (x82 : Int) =>
            Ld vw78 ((⟨vw2.heap.size, 0, none⟩ : Addr).add 4) Value.string fun (x83 : ByteArray) =>
            R (x79, x80, x81, x82, x83) 0 vw78)) (Br (r55 == 2) (C76 (x9.extract ((x10).toNat) ((r7).toNat)) vw56 fun r84 r85 vw86 =>
            Br (r85 == 0) (Ld vw86 ((⟨w.heap.size, 0, none⟩ : Addr).add 1) (Value.int .i64) fun (x87 : Int) =>
              St vw86 (⟨vw2.heap.size, 0, none⟩ : Addr) (.int .i64 2) fun vw88 =>
              St vw88 ((⟨vw2.heap.size, 0, none⟩ : Addr).add 1) (.int .i64 x87) fun vw89 =>
              St vw89 ((⟨vw2.heap.size, 0, none⟩ : Addr).add 2) (.int .i64 r7) fun vw90 =>
              St vw90 ((⟨vw2.heap.size, 0, none⟩ : Addr).add 3) (.int .i64 r84) fun vw91 =>
              St vw91 ((⟨vw2.heap.size, 0, none⟩ : Addr).add 4) (.string ((⟨#[]⟩ : ByteArray))) fun vw92 =>
              Ld vw92 (⟨vw2.heap.size, 0, none⟩ : Addr) (Value.int .i64) fun (x93 : Int) =>
              Ld vw92 ((⟨vw2.heap.size, 0, none⟩ : Addr).add 1) (Value.int .i64) fun (x94 : Int) =>
              Ld vw92 ((⟨vw2.heap.size, 0, none⟩ : Addr).add 2) (Value.int .i64) fun (x95 : Int) =>
              Ld vw92 ((⟨vw2.heap.size, 0, none⟩ : Addr).add 3) (Value.int .i64) fun (x96 : Int) =>
              Ld vw92 ((⟨vw2.heap.size, 0, none⟩ : Addr).add 4) Value.string fun (x97 : ByteArray) =>
              R (x93, x94, x95, x96, x97) 0 vw92) (Br (r85 == 2) (C46 r85 vw86 fun r98 r99 vw100 =>
                  St vw100 (⟨vw2.heap.size, 0, none⟩ : Addr) (.int .i64 (r98.1)) fun vw101 =>
                  St vw101 ((⟨vw2.heap.size, 0, none⟩ : Addr).add 1) (.int .i64 (r98.2.1)) fun vw102 =>
                  St vw102 ((⟨vw2.heap.size, 0, none⟩ : Addr).add 2) (.int .i64 (r98.2.2.1)) fun vw103 =>
                  St vw103 ((⟨vw2.heap.size, 0, none⟩ : Addr).add 3) (.int .i64 (r98.2.2.2.1)) fun vw104 =>
                  St vw104 ((⟨vw2.heap.size, 0, none⟩ : Addr).add 4) (.string r98.2.2.2.2) fun vw105 =>
                  Ld vw105 (⟨vw2.heap.size, 0, none⟩ : Addr) (Value.int .i64) fun (x106 : Int) =>
                  Ld vw105 ((⟨vw2.heap.size, 0, none⟩ : Addr).add 1) (Value.int .i64) fun (x107 : Int) =>
                  Ld vw105 ((⟨vw2.heap.size, 0, none⟩ : Addr).add 2) (Value.int .i64) fun (x108 : Int) =>
                  Ld vw105 ((⟨vw2.heap.size, 0, none⟩ : Addr).add 3) (Value.int .i64) fun (x109 : Int) =>
                  Ld vw105 ((⟨vw2.heap.size, 0, none⟩ : Addr).add 4) Value.string fun (x110 : ByteArray) =>
                  R (x106, x107, x108, x109, x110) r99 vw105) (Ld vw86 (⟨w.heap.size, 0, none⟩ : Addr) Value.string fun (x111 : ByteArray) =>
                Ld vw86 ((⟨w.heap.size, 0, none⟩ : Addr).add 1) (Value.int .i64) fun (x112 : Int) =>
                C68 (x111, x112) 5 r7 (x9.extract ((x10).toNat) ((r7).toNat)) 127 vw86 fun r113 r114 vw115 =>
                  St vw115 (⟨vw2.heap.size, 0, none⟩ : Addr) (.int .i64 (r113.1)) fun vw116 =>
                  St vw116 ((⟨vw2.heap.size, 0, none⟩ : Addr).add 1) (.int .i64 (r113.2.1)) fun vw117 =>
                  St vw117 ((⟨vw2.heap.size, 0, none⟩ : Addr).add 2) (.int .i64 (r113.2.2.1)) fun vw118 =>
                  St vw118 ((⟨vw2.heap.size, 0, none⟩ : Addr).add 3) (.int .i64 (r113.2.2.2.1)) fun vw119 =>
                  St vw119 ((⟨vw2.heap.size, 0, none⟩ : Addr).add 4) (.string r113.2.2.2.2) fun vw120 =>
                  Ld vw120 (⟨vw2.heap.size, 0, none⟩ : Addr) (Value.int .i64) fun (x121 : Int) =>
                  Ld vw120 ((⟨vw2.heap.size, 0, none⟩ : Addr).add 1) (Value.int .i64) fun (x122 : Int) =>
                  Ld vw120 ((⟨vw2.heap.size, 0, none⟩ : Addr).add 2) (Value.int .i64) fun (x123 : Int) =>
                  Ld vw120 ((⟨vw2.heap.size, 0, none⟩ : Addr).add 3) (Value.int .i64) fun (x124 : Int) =>
                  Ld vw120 ((⟨vw2.heap.size, 0, none⟩ : Addr).add 4) Value.string fun (x125 : ByteArray) =>
                  R (x121, x122, x123, x124, x125) r114 vw120))) (Ld vw56 (⟨w.heap.size, 0, none⟩ : Addr) Value.string fun (x126 : ByteArray) =>
          Ld vw56 ((⟨w.heap.size, 0, none⟩ : Addr).add 1) (Value.int .i64) fun (x127 : Int) =>
          C68 (x126, x127) 5 r7 (x9.extract ((x10).toNat) ((r7).toNat)) 127 vw56 fun r128 r129 vw130 =>
            St vw130 (⟨vw2.heap.size, 0, none⟩ : Addr) (.int .i64 (r128.1)) fun vw131 =>
            St vw131 ((⟨vw2.heap.size, 0, none⟩ : Addr).add 1) (.int .i64 (r128.2.1)) fun vw132 =>
            St vw132 ((⟨vw2.heap.size, 0, none⟩ : Addr).add 2) (.int .i64 (r128.2.2.1)) fun vw133 =>
            St vw133 ((⟨vw2.heap.size, 0, none⟩ : Addr).add 3) (.int .i64 (r128.2.2.2.1)) fun vw134 =>
            St vw134 ((⟨vw2.heap.size, 0, none⟩ : Addr).add 4) (.string r128.2.2.2.2) fun vw135 =>
            Ld vw135 (⟨vw2.heap.size, 0, none⟩ : Addr) (Value.int .i64) fun (x136 : Int) =>
            Ld vw135 ((⟨vw2.heap.size, 0, none⟩ : Addr).add 1) (Value.int .i64) fun (x137 : Int) =>
            Ld vw135 ((⟨vw2.heap.size, 0, none⟩ : Addr).add 2) (Value.int .i64) fun (x138 : Int) =>
            Ld vw135 ((⟨vw2.heap.size, 0, none⟩ : Addr).add 3) (Value.int .i64) fun (x139 : Int) =>
            Ld vw135 ((⟨vw2.heap.size, 0, none⟩ : Addr).add 4) Value.string fun (x140 : ByteArray) =>
            R (x136, x137, x138, x139, x140) r129 vw135))
def pl52 : Plan := (.seq (.reg .seq) (.seq (.reg .seq) (.seq (.reg .seq) (.seq (.seq (.reg .seq) (.block (.seq (.reg .seq) (.cond (.seq (.reg .seq) (.seq (.seq (.reg .seq) (.cond (.seq (.reg .seq) .leaf) .leaf)) (.seq (.reg .seq) .leaf))) (.seq (.reg .seq) (.cond (.seq (.reg .seq) (.seq (.reg .seq) (.block (.seq (.reg .seq) (.cond (.seq (.reg .seq) .leaf) (.seq (.reg .seq) (.cond (.seq (.reg .seq) .leaf) .leaf))))))) .leaf)))))) (.seq (.reg .seq) .leaf)))))
set_option maxRecDepth 100000 in
theorem T52 (c1 : ByteArray × Int) (w : World) (R : (Int × Int × Int × Int × ByteArray) → Int → World → Prop) (h : S52 c1 w R) : C52 (c1.1, c1.2) w R := by
  have e : fnT Tryd.prog ⟨FF, MAY, (fun _ _ => False)⟩ pl52 Tryd.f52 [.agg #[.string c1.1, .int .i64 (c1.2)]] w [(.agg [(.int .i64), (.int .i64), (.int .i64), (.int .i64), .str]), (.one (.int .i64))] (fun s w => R s.1 s.2 w) = S52 c1 w R := by kernel_rfl
  exact (fn_calls okF okM Tryd.func52 (by kernel_rfl) (by kernel_rfl) (e.mpr h)).mono fun _ _ ⟨s, he, hR⟩ => ⟨s.1, s.2, he, hR⟩

def S35J1 (w : World) (s1 : ByteArray) (vw47 : World) (r75 : Bool) (x177 : Int) (R : (Int × Int × Int × Int × ByteArray) → Int → World → Prop) (s178 : Bool) (vw179 : World) : Prop :=
  Br s178 (Ld vw179 (⟨vw47.heap.size, 0, none⟩ : Addr) Value.string fun (x180 : ByteArray) =>
    Ld vw179 ((⟨vw47.heap.size, 0, none⟩ : Addr).add 1) (Value.int .i64) fun (x181 : Int) =>
    C48 (x180, x181) 1 vw179 fun r182 r183 vw184 =>
      St vw184 (⟨w.heap.size, 0, none⟩ : Addr) (.int .i64 (r182.1)) fun vw185 =>
      St vw185 ((⟨w.heap.size, 0, none⟩ : Addr).add 1) (.int .i64 (r182.2.1)) fun vw186 =>
      St vw186 ((⟨w.heap.size, 0, none⟩ : Addr).add 2) (.int .i64 (r182.2.2.1)) fun vw187 =>
      St vw187 ((⟨w.heap.size, 0, none⟩ : Addr).add 3) (.int .i64 (r182.2.2.2.1)) fun vw188 =>
      St vw188 ((⟨w.heap.size, 0, none⟩ : Addr).add 4) (.string r182.2.2.2.2) fun vw189 =>
      Ld vw189 (⟨w.heap.size, 0, none⟩ : Addr) (Value.int .i64) fun (x190 : Int) =>
      Ld vw189 ((⟨w.heap.size, 0, none⟩ : Addr).add 1) (Value.int .i64) fun (x191 : Int) =>
      Ld vw189 ((⟨w.heap.size, 0, none⟩ : Addr).add 2) (Value.int .i64) fun (x192 : Int) =>
      Ld vw189 ((⟨w.heap.size, 0, none⟩ : Addr).add 3) (Value.int .i64) fun (x193 : Int) =>
      Ld vw189 ((⟨w.heap.size, 0, none⟩ : Addr).add 4) Value.string fun (x194 : ByteArray) =>
      R (x190, x191, x192, x193, x194) r183 vw189) (Br ((bAt s1 x177) == 60) (Br r75 (Ld vw179 (⟨vw47.heap.size, 0, none⟩ : Addr) Value.string fun (x195 : ByteArray) =>
        Ld vw179 ((⟨vw47.heap.size, 0, none⟩ : Addr).add 1) (Value.int .i64) fun (x196 : Int) =>
        C48 (x195, x196) 2 vw179 fun r197 r198 vw199 =>
          St vw199 (⟨w.heap.size, 0, none⟩ : Addr) (.int .i64 (r197.1)) fun vw200 =>
          St vw200 ((⟨w.heap.size, 0, none⟩ : Addr).add 1) (.int .i64 (r197.2.1)) fun vw201 =>
          St vw201 ((⟨w.heap.size, 0, none⟩ : Addr).add 2) (.int .i64 (r197.2.2.1)) fun vw202 =>
          St vw202 ((⟨w.heap.size, 0, none⟩ : Addr).add 3) (.int .i64 (r197.2.2.2.1)) fun vw203 =>
          St vw203 ((⟨w.heap.size, 0, none⟩ : Addr).add 4) (.string r197.2.2.2.2) fun vw204 =>
          Ld vw204 (⟨w.heap.size, 0, none⟩ : Addr) (Value.int .i64) fun (x205 : Int) =>
          Ld vw204 ((⟨w.heap.size, 0, none⟩ : Addr).add 1) (Value.int .i64) fun (x206 : Int) =>
          Ld vw204 ((⟨w.heap.size, 0, none⟩ : Addr).add 2) (Value.int .i64) fun (x207 : Int) =>
          Ld vw204 ((⟨w.heap.size, 0, none⟩ : Addr).add 3) (Value.int .i64) fun (x208 : Int) =>
          Ld vw204 ((⟨w.heap.size, 0, none⟩ : Addr).add 4) Value.string fun (x209 : ByteArray) =>
          R (x205, x206, x207, x208, x209) r198 vw204) (Ld vw179 (⟨vw47.heap.size, 0, none⟩ : Addr) Value.string fun (x210 : ByteArray) =>
        Ld vw179 ((⟨vw47.heap.size, 0, none⟩ : Addr).add 1) (Value.int .i64) fun (x211 : Int) =>
        C49 (x210, x211) vw179 fun r212 r213 vw214 =>
          St vw214 (⟨w.heap.size, 0, none⟩ : Addr) (.int .i64 (r212.1)) fun vw215 =>
          St vw215 ((⟨w.heap.size, 0, none⟩ : Addr).add 1) (.int .i64 (r212.2.1)) fun vw216 =>
          St vw216 ((⟨w.heap.size, 0, none⟩ : Addr).add 2) (.int .i64 (r212.2.2.1)) fun vw217 =>
          St vw217 ((⟨w.heap.size, 0, none⟩ : Addr).add 3) (.int .i64 (r212.2.2.2.1)) fun vw218 =>
          St vw218 ((⟨w.heap.size, 0, none⟩ : Addr).add 4) (.string r212.2.2.2.2) fun vw219 =>
          Ld vw219 (⟨w.heap.size, 0, none⟩ : Addr) (Value.int .i64) fun (x220 : Int) =>
          Ld vw219 ((⟨w.heap.size, 0, none⟩ : Addr).add 1) (Value.int .i64) fun (x221 : Int) =>
          Ld vw219 ((⟨w.heap.size, 0, none⟩ : Addr).add 2) (Value.int .i64) fun (x222 : Int) =>
          Ld vw219 ((⟨w.heap.size, 0, none⟩ : Addr).add 3) (Value.int .i64) fun (x223 : Int) =>
          Ld vw219 ((⟨w.heap.size, 0, none⟩ : Addr).add 4) Value.string fun (x224 : ByteArray) =>
          R (x220, x221, x222, x223, x224) r213 vw219)) (Br ((bAt s1 x177) == 62) (Br r75 (Ld vw179 (⟨vw47.heap.size, 0, none⟩ : Addr) Value.string fun (x225 : ByteArray) =>
          Ld vw179 ((⟨vw47.heap.size, 0, none⟩ : Addr).add 1) (Value.int .i64) fun (x226 : Int) =>
          C48 (x225, x226) 2 vw179 fun r227 r228 vw229 =>
            St vw229 (⟨w.heap.size, 0, none⟩ : Addr) (.int .i64 (r227.1)) fun vw230 =>
            St vw230 ((⟨w.heap.size, 0, none⟩ : Addr).add 1) (.int .i64 (r227.2.1)) fun vw231 =>
            St vw231 ((⟨w.heap.size, 0, none⟩ : Addr).add 2) (.int .i64 (r227.2.2.1)) fun vw232 =>
            St vw232 ((⟨w.heap.size, 0, none⟩ : Addr).add 3) (.int .i64 (r227.2.2.2.1)) fun vw233 =>
            St vw233 ((⟨w.heap.size, 0, none⟩ : Addr).add 4) (.string r227.2.2.2.2) fun vw234 =>
            Ld vw234 (⟨w.heap.size, 0, none⟩ : Addr) (Value.int .i64) fun (x235 : Int) =>
            Ld vw234 ((⟨w.heap.size, 0, none⟩ : Addr).add 1) (Value.int .i64) fun (x236 : Int) =>
            Ld vw234 ((⟨w.heap.size, 0, none⟩ : Addr).add 2) (Value.int .i64) fun (x237 : Int) =>
            Ld vw234 ((⟨w.heap.size, 0, none⟩ : Addr).add 3) (Value.int .i64) fun (x238 : Int) =>
            Ld vw234 ((⟨w.heap.size, 0, none⟩ : Addr).add 4) Value.string fun (x239 : ByteArray) =>
            R (x235, x236, x237, x238, x239) r228 vw234) (C46 3 vw179 fun r240 r241 vw242 =>
            St vw242 (⟨w.heap.size, 0, none⟩ : Addr) (.int .i64 (r240.1)) fun vw243 =>
            St vw243 ((⟨w.heap.size, 0, none⟩ : Addr).add 1) (.int .i64 (r240.2.1)) fun vw244 =>
            St vw244 ((⟨w.heap.size, 0, none⟩ : Addr).add 2) (.int .i64 (r240.2.2.1)) fun vw245 =>
            St vw245 ((⟨w.heap.size, 0, none⟩ : Addr).add 3) (.int .i64 (r240.2.2.2.1)) fun vw246 =>
            St vw246 ((⟨w.heap.size, 0, none⟩ : Addr).add 4) (.string r240.2.2.2.2) fun vw247 =>
            Ld vw247 (⟨w.heap.size, 0, none⟩ : Addr) (Value.int .i64) fun (x248 : Int) =>
            Ld vw247 ((⟨w.heap.size, 0, none⟩ : Addr).add 1) (Value.int .i64) fun (x249 : Int) =>
            Ld vw247 ((⟨w.heap.size, 0, none⟩ : Addr).add 2) (Value.int .i64) fun (x250 : Int) =>
            Ld vw247 ((⟨w.heap.size, 0, none⟩ : Addr).add 3) (Value.int .i64) fun (x251 : Int) =>
            Ld vw247 ((⟨w.heap.size, 0, none⟩ : Addr).add 4) Value.string fun (x252 : ByteArray) =>
            R (x248, x249, x250, x251, x252) r241 vw247)) (Br ((bAt s1 x177) == 47) (Ld vw179 (⟨vw47.heap.size, 0, none⟩ : Addr) Value.string fun (x253 : ByteArray) =>
          Ld vw179 ((⟨vw47.heap.size, 0, none⟩ : Addr).add 1) (Value.int .i64) fun (x254 : Int) =>
          C50 (x253, x254) vw179 fun r255 r256 vw257 =>
            St vw257 (⟨w.heap.size, 0, none⟩ : Addr) (.int .i64 (r255.1)) fun vw258 =>
            St vw258 ((⟨w.heap.size, 0, none⟩ : Addr).add 1) (.int .i64 (r255.2.1)) fun vw259 =>
            St vw259 ((⟨w.heap.size, 0, none⟩ : Addr).add 2) (.int .i64 (r255.2.2.1)) fun vw260 =>
            St vw260 ((⟨w.heap.size, 0, none⟩ : Addr).add 3) (.int .i64 (r255.2.2.2.1)) fun vw261 =>
            St vw261 ((⟨w.heap.size, 0, none⟩ : Addr).add 4) (.string r255.2.2.2.2) fun vw262 =>
            Ld vw262 (⟨w.heap.size, 0, none⟩ : Addr) (Value.int .i64) fun (x263 : Int) =>
            Ld vw262 ((⟨w.heap.size, 0, none⟩ : Addr).add 1) (Value.int .i64) fun (x264 : Int) =>
            Ld vw262 ((⟨w.heap.size, 0, none⟩ : Addr).add 2) (Value.int .i64) fun (x265 : Int) =>
            Ld vw262 ((⟨w.heap.size, 0, none⟩ : Addr).add 3) (Value.int .i64) fun (x266 : Int) =>
            Ld vw262 ((⟨w.heap.size, 0, none⟩ : Addr).add 4) Value.string fun (x267 : ByteArray) =>
            R (x263, x264, x265, x266, x267) r256 vw262) (Br ((bAt s1 x177) == 40) (Ld vw179 (⟨vw47.heap.size, 0, none⟩ : Addr) Value.string fun (x268 : ByteArray) =>
            Ld vw179 ((⟨vw47.heap.size, 0, none⟩ : Addr).add 1) (Value.int .i64) fun (x269 : Int) =>
            C51 (x268, x269) vw179 fun r270 r271 vw272 =>
              St vw272 (⟨w.heap.size, 0, none⟩ : Addr) (.int .i64 (r270.1)) fun vw273 =>
              St vw273 ((⟨w.heap.size, 0, none⟩ : Addr).add 1) (.int .i64 (r270.2.1)) fun vw274 =>
              St vw274 ((⟨w.heap.size, 0, none⟩ : Addr).add 2) (.int .i64 (r270.2.2.1)) fun vw275 =>
              St vw275 ((⟨w.heap.size, 0, none⟩ : Addr).add 3) (.int .i64 (r270.2.2.2.1)) fun vw276 =>
              St vw276 ((⟨w.heap.size, 0, none⟩ : Addr).add 4) (.string r270.2.2.2.2) fun vw277 =>
              Ld vw277 (⟨w.heap.size, 0, none⟩ : Addr) (Value.int .i64) fun (x278 : Int) =>
              Ld vw277 ((⟨w.heap.size, 0, none⟩ : Addr).add 1) (Value.int .i64) fun (x279 : Int) =>
              Ld vw277 ((⟨w.heap.size, 0, none⟩ : Addr).add 2) (Value.int .i64) fun (x280 : Int) =>
              Ld vw277 ((⟨w.heap.size, 0, none⟩ : Addr).add 3) (Value.int .i64) fun (x281 : Int) =>
              Ld vw277 ((⟨w.heap.size, 0, none⟩ : Addr).add 4) Value.string fun (x282 : ByteArray) =>
              R (x278, x279, x280, x281, x282) r271 vw277) (Br ((bAt s1 x177) == 41) (C46 3 vw179 fun r283 r284 vw285 =>
                St vw285 (⟨w.heap.size, 0, none⟩ : Addr) (.int .i64 (r283.1)) fun vw286 =>
                St vw286 ((⟨w.heap.size, 0, none⟩ : Addr).add 1) (.int .i64 (r283.2.1)) fun vw287 =>
                St vw287 ((⟨w.heap.size, 0, none⟩ : Addr).add 2) (.int .i64 (r283.2.2.1)) fun vw288 =>
                St vw288 ((⟨w.heap.size, 0, none⟩ : Addr).add 3) (.int .i64 (r283.2.2.2.1)) fun vw289 =>
                St vw289 ((⟨w.heap.size, 0, none⟩ : Addr).add 4) (.string r283.2.2.2.2) fun vw290 =>
                Ld vw290 (⟨w.heap.size, 0, none⟩ : Addr) (Value.int .i64) fun (x291 : Int) =>
                Ld vw290 ((⟨w.heap.size, 0, none⟩ : Addr).add 1) (Value.int .i64) fun (x292 : Int) =>
                Ld vw290 ((⟨w.heap.size, 0, none⟩ : Addr).add 2) (Value.int .i64) fun (x293 : Int) =>
                Ld vw290 ((⟨w.heap.size, 0, none⟩ : Addr).add 3) (Value.int .i64) fun (x294 : Int) =>
                Ld vw290 ((⟨w.heap.size, 0, none⟩ : Addr).add 4) Value.string fun (x295 : ByteArray) =>
                R (x291, x292, x293, x294, x295) r284 vw290) (Ld vw179 (⟨vw47.heap.size, 0, none⟩ : Addr) Value.string fun (x296 : ByteArray) =>
              Ld vw179 ((⟨vw47.heap.size, 0, none⟩ : Addr).add 1) (Value.int .i64) fun (x297 : Int) =>
              C52 (x296, x297) vw179 fun r298 r299 vw300 =>
                St vw300 (⟨w.heap.size, 0, none⟩ : Addr) (.int .i64 (r298.1)) fun vw301 =>
                St vw301 ((⟨w.heap.size, 0, none⟩ : Addr).add 1) (.int .i64 (r298.2.1)) fun vw302 =>
                St vw302 ((⟨w.heap.size, 0, none⟩ : Addr).add 2) (.int .i64 (r298.2.2.1)) fun vw303 =>
                St vw303 ((⟨w.heap.size, 0, none⟩ : Addr).add 3) (.int .i64 (r298.2.2.2.1)) fun vw304 =>
                St vw304 ((⟨w.heap.size, 0, none⟩ : Addr).add 4) (.string r298.2.2.2.2) fun vw305 =>
                Ld vw305 (⟨w.heap.size, 0, none⟩ : Addr) (Value.int .i64) fun (x306 : Int) =>
                Ld vw305 ((⟨w.heap.size, 0, none⟩ : Addr).add 1) (Value.int .i64) fun (x307 : Int) =>
                Ld vw305 ((⟨w.heap.size, 0, none⟩ : Addr).add 2) (Value.int .i64) fun (x308 : Int) =>
                Ld vw305 ((⟨w.heap.size, 0, none⟩ : Addr).add 3) (Value.int .i64) fun (x309 : Int) =>
                Ld vw305 ((⟨w.heap.size, 0, none⟩ : Addr).add 4) Value.string fun (x310 : ByteArray) =>
                R (x306, x307, x308, x309, x310) r299 vw305))))))
/-- foliant/lex.Next -/
def S35 (s1 : ByteArray) (vat2 : Int) (w : World) (R : (Int × Int × Int × Int × ByteArray) → Int → World → Prop) : Prop :=
  Nw w (.cells #[.int .i64 0, .int .i64 0, .int .i64 0, .int .i64 0, .string ((⟨#[]⟩ : ByteArray))] 32) fun vw3 =>
  Br (decide (vat2 < 0)) (C46 1 vw3 fun r20 r21 vw22 =>
      St vw22 (⟨w.heap.size, 0, none⟩ : Addr) (.int .i64 (r20.1)) fun vw23 =>
      St vw23 ((⟨w.heap.size, 0, none⟩ : Addr).add 1) (.int .i64 (r20.2.1)) fun vw24 =>
      St vw24 ((⟨w.heap.size, 0, none⟩ : Addr).add 2) (.int .i64 (r20.2.2.1)) fun vw25 =>
      St vw25 ((⟨w.heap.size, 0, none⟩ : Addr).add 3) (.int .i64 (r20.2.2.2.1)) fun vw26 =>
      St vw26 ((⟨w.heap.size, 0, none⟩ : Addr).add 4) (.string r20.2.2.2.2) fun vw27 =>
      Ld vw27 (⟨w.heap.size, 0, none⟩ : Addr) (Value.int .i64) fun (x28 : Int) =>
      Ld vw27 ((⟨w.heap.size, 0, none⟩ : Addr).add 1) (Value.int .i64) fun (x29 : Int) =>
      Ld vw27 ((⟨w.heap.size, 0, none⟩ : Addr).add 2) (Value.int .i64) fun (x30 : Int) =>
      Ld vw27 ((⟨w.heap.size, 0, none⟩ : Addr).add 3) (Value.int .i64) fun (x31 : Int) =>
      Ld vw27 ((⟨w.heap.size, 0, none⟩ : Addr).add 4) Value.string fun (x32 : ByteArray) =>
      R (x28, x29, x30, x31, x32) r21 vw27) (Br (decide (vat2 > (((s1).size : Nat) : Int))) (C46 1 vw3 fun r33 r34 vw35 =>
        St vw35 (⟨w.heap.size, 0, none⟩ : Addr) (.int .i64 (r33.1)) fun vw36 =>
        St vw36 ((⟨w.heap.size, 0, none⟩ : Addr).add 1) (.int .i64 (r33.2.1)) fun vw37 =>
        St vw37 ((⟨w.heap.size, 0, none⟩ : Addr).add 2) (.int .i64 (r33.2.2.1)) fun vw38 =>
        St vw38 ((⟨w.heap.size, 0, none⟩ : Addr).add 3) (.int .i64 (r33.2.2.2.1)) fun vw39 =>
        St vw39 ((⟨w.heap.size, 0, none⟩ : Addr).add 4) (.string r33.2.2.2.2) fun vw40 =>
        Ld vw40 (⟨w.heap.size, 0, none⟩ : Addr) (Value.int .i64) fun (x41 : Int) =>
        Ld vw40 ((⟨w.heap.size, 0, none⟩ : Addr).add 1) (Value.int .i64) fun (x42 : Int) =>
        Ld vw40 ((⟨w.heap.size, 0, none⟩ : Addr).add 2) (Value.int .i64) fun (x43 : Int) =>
        Ld vw40 ((⟨w.heap.size, 0, none⟩ : Addr).add 3) (Value.int .i64) fun (x44 : Int) =>
        Ld vw40 ((⟨w.heap.size, 0, none⟩ : Addr).add 4) Value.string fun (x45 : ByteArray) =>
        R (x41, x42, x43, x44, x45) r34 vw40) (C36 s1 vat2 vw3 fun r46 vw47 =>
        Nw vw47 (.cells #[.string ((⟨#[]⟩ : ByteArray)), .int .i64 0] 81) fun vw48 =>
        St vw48 (⟨vw47.heap.size, 0, none⟩ : Addr) (.string s1) fun vw49 =>
        St vw49 ((⟨vw47.heap.size, 0, none⟩ : Addr).add 1) (.int .i64 r46) fun vw50 =>
        Ld vw50 ((⟨vw47.heap.size, 0, none⟩ : Addr).add 1) (Value.int .i64) fun (x59 : Int) =>
        Br (x59 == (((s1).size : Nat) : Int)) (Ld vw50 ((⟨vw47.heap.size, 0, none⟩ : Addr).add 1) (Value.int .i64) fun (x60 : Int) =>
          Ld vw50 ((⟨vw47.heap.size, 0, none⟩ : Addr).add 1) (Value.int .i64) fun (x61 : Int) =>
          St vw50 (⟨w.heap.size, 0, none⟩ : Addr) (.int .i64 0) fun vw62 =>
          St vw62 ((⟨w.heap.size, 0, none⟩ : Addr).add 1) (.int .i64 x60) fun vw63 =>
          St vw63 ((⟨w.heap.size, 0, none⟩ : Addr).add 2) (.int .i64 x61) fun vw64 =>
          St vw64 ((⟨w.heap.size, 0, none⟩ : Addr).add 3) (.int .i64 0) fun vw65 =>
          St vw65 ((⟨w.heap.size, 0, none⟩ : Addr).add 4) (.string ((⟨#[]⟩ : ByteArray))) fun vw66 =>
          Ld vw66 (⟨w.heap.size, 0, none⟩ : Addr) (Value.int .i64) fun (x67 : Int) =>
          Ld vw66 ((⟨w.heap.size, 0, none⟩ : Addr).add 1) (Value.int .i64) fun (x68 : Int) =>
          Ld vw66 ((⟨w.heap.size, 0, none⟩ : Addr).add 2) (Value.int .i64) fun (x69 : Int) =>
          Ld vw66 ((⟨w.heap.size, 0, none⟩ : Addr).add 3) (Value.int .i64) fun (x70 : Int) =>
          Ld vw66 ((⟨w.heap.size, 0, none⟩ : Addr).add 4) Value.string fun (x71 : ByteArray) =>
          R (x67, x68, x69, x70, x71) 0 vw66) (Ld vw50.drew ((⟨vw47.heap.size, 0, none⟩ : Addr).add 1) (Value.int .i64) fun (x72 : Int) =>
          Ld vw50.drew ((⟨vw47.heap.size, 0, none⟩ : Addr).add 1) (Value.int .i64) fun (x73 : Int) =>
          0 ≤ (IntKind.i64.wrap (x73 + 1)) ∧ (IntKind.i64.wrap (x73 + 1)) ≤ (((s1).size : Nat) : Int) ∧ 0 ≤ x72 ∧ x72 ≤ (((IntKind.i64.wrap (x73 + 1)).toNat : Nat) : Int) ∧ Ld vw50.drew ((⟨vw47.heap.size, 0, none⟩ : Addr).add 1) (Value.int .i64) fun (x74 : Int) =>
          C47 s1 (s1.extract ((x72).toNat) ((IntKind.i64.wrap (x73 + 1)).toNat)) (IntKind.i64.wrap (x74 + 1)) vw50.drew fun r75 vw76 =>
            Ld vw76 ((⟨vw47.heap.size, 0, none⟩ : Addr).add 1) (Value.int .i64) fun (x177 : Int) =>
            0 ≤ x177 ∧ x177 < ((s1).size : Nat) ∧ Join (S35J1 w s1 vw47 r75 x177 R) fun (vJ311 : Bool → World → Prop) =>
              Br ((bAt s1 x177) == 91) (vJ311 ((bAt s1 x177) == 91) vw76) (Br ((bAt s1 x177) == 93) (vJ311 ((bAt s1 x177) == 93) vw76) (Br ((bAt s1 x177) == 123) (vJ311 ((bAt s1 x177) == 123) vw76) (vJ311 ((bAt s1 x177) == 125) vw76))))))
def pl35 : Plan := (.seq (.reg .seq) (.seq (.seq (.reg .seq) (.cond (.seq (.reg .seq) .leaf) .leaf)) (.seq (.reg .seq) (.seq (.seq (.reg .seq) (.cond (.seq (.reg .seq) .leaf) .leaf)) (.seq (.reg (.tail 11)) (.seq (.seq (.reg .seq) (.block (.join [(50, (.one .bool))] [4, 6, 7, 49] (.seq (.reg .seq) (.cond .leaf (.seq (.reg .seq) (.cond .leaf (.seq (.reg .seq) (.cond .leaf (.reg .seq))))))) (.cond (.seq (.reg .seq) .leaf) (.seq (.reg .seq) (.cond (.seq (.seq (.reg .seq) (.cond (.seq (.reg .seq) .leaf) .leaf)) (.seq (.reg .seq) .leaf)) (.seq (.reg .seq) (.cond (.seq (.seq (.reg .seq) (.cond (.seq (.reg .seq) .leaf) .leaf)) (.seq (.reg .seq) .leaf)) (.seq (.reg .seq) (.cond (.seq (.reg .seq) .leaf) (.seq (.reg .seq) (.cond (.seq (.reg .seq) .leaf) (.seq (.reg .seq) (.cond (.seq (.reg .seq) .leaf) .leaf)))))))))))))) (.seq (.reg .seq) .leaf)))))))
set_option maxRecDepth 100000 in
theorem T35 (s1 : ByteArray) (vat2 : Int) (w : World) (R : (Int × Int × Int × Int × ByteArray) → Int → World → Prop) (h : S35 s1 vat2 w R) : C35 s1 vat2 w R := by
  have e : fnT Tryd.prog ⟨FF, MAY, (fun _ _ => False)⟩ pl35 Tryd.f35 [.string s1, .int .i64 vat2] w [(.agg [(.int .i64), (.int .i64), (.int .i64), (.int .i64), .str]), (.one (.int .i64))] (fun s w => R s.1 s.2 w) = S35 s1 vat2 w R := by kernel_rfl
  exact (fn_calls okF okM Tryd.func35 (by kernel_rfl) (by kernel_rfl) (e.mpr h)).mono fun _ _ ⟨s, he, hR⟩ => ⟨s.1, s.2, he, hR⟩

end Go.Proofs.YtpkadliieplblaaDoor
