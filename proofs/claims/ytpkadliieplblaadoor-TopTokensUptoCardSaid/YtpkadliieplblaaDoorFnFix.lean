/- The formulas of 14 functions of the program, written by program (gen.py); the kernel checks each. No condition. -/
import Derived.Test.YtpkadliieplblaaDoorFn
namespace Go.Proofs.YtpkadliieplblaaDoor
open Sh
set_option linter.unusedVariables false
set_option maxRecDepth 100000

def C14 (n1 : Int) (w : World) (R : Bool → World → Prop) : Prop :=
  Calls Tryd.prog 14 #[.int .i64 n1] w fun e w' => ∃ r0 : Bool, e = .returned (.bool r0) ∧ R r0 w'
theorem C14.mono {n1 : Int} {w : World} {R R' : Bool → World → Prop} (h : C14 n1 w R) (hr : ∀ r0 w', R r0 w' → R' r0 w') : C14 n1 w R' :=
  Calls.mono h fun _ _ ⟨r0, he, hR⟩ => ⟨r0, he, hr _ _ hR⟩
def C15 (n1 : Int) (least2 : Int) (w : World) (R : ByteArray → World → Prop) : Prop :=
  Calls Tryd.prog 15 #[.int .i64 n1, .int .i64 least2] w fun e w' => ∃ r0 : ByteArray, e = .returned (.string r0) ∧ R r0 w'
theorem C15.mono {n1 : Int} {least2 : Int} {w : World} {R R' : ByteArray → World → Prop} (h : C15 n1 least2 w R) (hr : ∀ r0 w', R r0 w' → R' r0 w') : C15 n1 least2 w R' :=
  Calls.mono h fun _ _ ⟨r0, he, hR⟩ => ⟨r0, he, hr _ _ hR⟩
def C16 (s1 : ByteArray) (cutset2 : ByteArray) (w : World) (R : ByteArray → World → Prop) : Prop :=
  Calls Tryd.prog 16 #[.string s1, .string cutset2] w fun e w' => ∃ r0 : ByteArray, e = .returned (.string r0) ∧ R r0 w'
theorem C16.mono {s1 : ByteArray} {cutset2 : ByteArray} {w : World} {R R' : ByteArray → World → Prop} (h : C16 s1 cutset2 w R) (hr : ∀ r0 w', R r0 w' → R' r0 w') : C16 s1 cutset2 w R' :=
  Calls.mono h fun _ _ ⟨r0, he, hR⟩ => ⟨r0, he, hr _ _ hR⟩
def C5 (n1 : Int) (w : World) (R : ByteArray → World → Prop) : Prop :=
  Calls Tryd.prog 5 #[.int .i64 n1] w fun e w' => ∃ r0 : ByteArray, e = .returned (.string r0) ∧ R r0 w'
theorem C5.mono {n1 : Int} {w : World} {R R' : ByteArray → World → Prop} (h : C5 n1 w R) (hr : ∀ r0 w', R r0 w' → R' r0 w') : C5 n1 w R' :=
  Calls.mono h fun _ _ ⟨r0, he, hR⟩ => ⟨r0, he, hr _ _ hR⟩
def C67 (s1 : ByteArray) (vprefix2 : ByteArray) (w : World) (R : Bool → World → Prop) : Prop :=
  Calls Tryd.prog 67 #[.string s1, .string vprefix2] w fun e w' => ∃ r0 : Bool, e = .returned (.bool r0) ∧ R r0 w'
theorem C67.mono {s1 : ByteArray} {vprefix2 : ByteArray} {w : World} {R R' : Bool → World → Prop} (h : C67 s1 vprefix2 w R) (hr : ∀ r0 w', R r0 w' → R' r0 w') : C67 s1 vprefix2 w R' :=
  Calls.mono h fun _ _ ⟨r0, he, hR⟩ => ⟨r0, he, hr _ _ hR⟩
def CD91 (n1 : Option Addr) (ve2 : Option Addr) (u : Option Value) (w : World) (R : World → Prop) : Prop := CallD Tryd.prog 91 #[.pointer n1, .pointer ve2] u w R
theorem CD91.mono {n1 : Option Addr} {ve2 : Option Addr} {u : Option Value} {w : World} {R R' : World → Prop} (h : CD91 n1 ve2 u w R) (hr : ∀ w', R w' → R' w') : CD91 n1 ve2 u w R' :=
  CallsD.mono h fun _ _ _ ⟨h1, h2, h3⟩ => ⟨h1, h2, hr _ h3⟩
def C41 (a0 : ByteArray) (a1 : ByteArray) (w : World) (R : Int → World → Prop) : Prop :=
  Calls Tryd.prog 41 #[.string a0, .string a1] w fun e w' => ∃ r0 : Int, e = .returned (.int .i64 r0) ∧ R r0 w'
theorem C41.mono {a0 : ByteArray} {a1 : ByteArray} {w : World} {R R' : Int → World → Prop} (h : C41 a0 a1 w R) (hr : ∀ r0 w', R r0 w' → R' r0 w') : C41 a0 a1 w R' :=
  Calls.mono h fun _ _ ⟨r0, he, hR⟩ => ⟨r0, he, hr _ _ hR⟩
def C100 (s1 : ByteArray) (sep2 : ByteArray) (w : World) (R : ByteArray → ByteArray → Bool → World → Prop) : Prop :=
  Calls Tryd.prog 100 #[.string s1, .string sep2] w fun e w' => ∃ r0 : ByteArray, ∃ r1 : ByteArray, ∃ r2 : Bool, e = .returned (.tuple #[.string r0, .string r1, .bool r2]) ∧ R r0 r1 r2 w'
theorem C100.mono {s1 : ByteArray} {sep2 : ByteArray} {w : World} {R R' : ByteArray → ByteArray → Bool → World → Prop} (h : C100 s1 sep2 w R) (hr : ∀ r0 r1 r2 w', R r0 r1 r2 w' → R' r0 r1 r2 w') : C100 s1 sep2 w R' :=
  Calls.mono h fun _ _ ⟨r0, r1, r2, he, hR⟩ => ⟨r0, r1, r2, he, hr _ _ _ _ hR⟩
def C92 (s1 : ByteArray) (sep2 : ByteArray) (w : World) (R : ByteArray → ByteArray → Bool → World → Prop) : Prop :=
  Calls Tryd.prog 92 #[.string s1, .string sep2] w fun e w' => ∃ r0 : ByteArray, ∃ r1 : ByteArray, ∃ r2 : Bool, e = .returned (.tuple #[.string r0, .string r1, .bool r2]) ∧ R r0 r1 r2 w'
theorem C92.mono {s1 : ByteArray} {sep2 : ByteArray} {w : World} {R R' : ByteArray → ByteArray → Bool → World → Prop} (h : C92 s1 sep2 w R) (hr : ∀ r0 r1 r2 w', R r0 r1 r2 w' → R' r0 r1 r2 w') : C92 s1 sep2 w R' :=
  Calls.mono h fun _ _ ⟨r0, r1, r2, he, hR⟩ => ⟨r0, r1, r2, he, hr _ _ _ _ hR⟩
def C89 (s1 : ByteArray) (cutset2 : ByteArray) (w : World) (R : ByteArray → World → Prop) : Prop :=
  Calls Tryd.prog 89 #[.string s1, .string cutset2] w fun e w' => ∃ r0 : ByteArray, e = .returned (.string r0) ∧ R r0 w'
theorem C89.mono {s1 : ByteArray} {cutset2 : ByteArray} {w : World} {R R' : ByteArray → World → Prop} (h : C89 s1 cutset2 w R) (hr : ∀ r0 w', R r0 w' → R' r0 w') : C89 s1 cutset2 w R' :=
  Calls.mono h fun _ _ ⟨r0, he, hR⟩ => ⟨r0, he, hr _ _ hR⟩
def C93 (s1 : ByteArray) (w : World) (R : Bool → World → Prop) : Prop :=
  Calls Tryd.prog 93 #[.string s1] w fun e w' => ∃ r0 : Bool, e = .returned (.bool r0) ∧ R r0 w'
theorem C93.mono {s1 : ByteArray} {w : World} {R R' : Bool → World → Prop} (h : C93 s1 w R) (hr : ∀ r0 w', R r0 w' → R' r0 w') : C93 s1 w R' :=
  Calls.mono h fun _ _ ⟨r0, he, hR⟩ => ⟨r0, he, hr _ _ hR⟩
def C94 (l1 : Slc) (w : World) (R : World → Prop) (PR : Value → World → Prop) : Prop :=
  Calls Tryd.prog 94 #[Slc.v l1] w fun e w' => (e = .returned (.tuple #[]) ∧ R w') ∨ ∃ v, e = .panicked (onePanic v) ∧ PR v w'
theorem C94.mono {l1 : Slc} {w : World} {R R' : World → Prop} {PR PR' : Value → World → Prop} (h : C94 l1 w R PR) (hr : ∀ w', R w' → R' w') (hp : ∀ v w', PR v w' → PR' v w') : C94 l1 w R' PR' :=
  Calls.mono h fun _ _ he => he.elim (fun ⟨he, hR⟩ => .inl ⟨he, hr _ hR⟩) fun ⟨v, he, hP⟩ => .inr ⟨v, he, hp _ _ hP⟩
def C76 (s1 : ByteArray) (w : World) (R : Int → Int → World → Prop) : Prop :=
  Calls Tryd.prog 76 #[.string s1] w fun e w' => ∃ r0 : Int, ∃ r1 : Int, e = .returned (.tuple #[.int .i64 r0, .int .i64 r1]) ∧ R r0 r1 w'
theorem C76.mono {s1 : ByteArray} {w : World} {R R' : Int → Int → World → Prop} (h : C76 s1 w R) (hr : ∀ r0 r1 w', R r0 r1 w' → R' r0 r1 w') : C76 s1 w R' :=
  Calls.mono h fun _ _ ⟨r0, r1, he, hR⟩ => ⟨r0, r1, he, hr _ _ _ hR⟩
def C6 (n1 : Int) (w : World) (R : ByteArray → Int → World → Prop) : Prop :=
  Calls Tryd.prog 6 #[.int .i64 n1] w fun e w' => ∃ r0 : ByteArray, ∃ r1 : Int, e = .returned (.tuple #[.string r0, .int .i64 r1]) ∧ R r0 r1 w'
theorem C6.mono {n1 : Int} {w : World} {R R' : ByteArray → Int → World → Prop} (h : C6 n1 w R) (hr : ∀ r0 r1 w', R r0 r1 w' → R' r0 r1 w') : C6 n1 w R' :=
  Calls.mono h fun _ _ ⟨r0, r1, he, hR⟩ => ⟨r0, r1, he, hr _ _ _ hR⟩

/-- foliant/fix.within -/
def S14 (n1 : Int) (w : World) (R : Bool → World → Prop) : Prop :=
  Br (decide (n1 ≥ (-1073741824))) (R (decide (n1 ≤ 1073741824)) w) (R false w)
def pl14 : Plan := (.seq (.reg .seq) (.seq (.reg .seq) .leaf))
set_option maxRecDepth 100000 in
theorem T14 (n1 : Int) (w : World) (R : Bool → World → Prop) (h : S14 n1 w R) : C14 n1 w R := by
  have e : fnT Tryd.prog ⟨FF, MAY, (fun _ _ => False)⟩ pl14 Tryd.f14 [.int .i64 n1] w [(.one .bool)] (fun s w => R s w) = S14 n1 w R := by kernel_rfl
  exact (fn_calls okF okM Tryd.func14 (by kernel_rfl) (by kernel_rfl) (e.mpr h)).mono fun _ _ ⟨s, he, hR⟩ => ⟨s, he, hR⟩

def S15L1 (least2 : Int) (R : ByteArray → World → Prop) (I5 : (Int × ByteArray) → World → Prop) (s3 : Int × ByteArray) (vw4 : World) : Prop :=
  Br (decide (s3.1 > 0)) (Nw vw4 (.cells #[.int .u8 (IntKind.u8.wrap (IntKind.i64.wrap (48 + (Int.tmod s3.1 10))))] 5) fun vw6 =>
    Rn Tryd.prog (convert 56 9 (Slc.v ((⟨some ⟨vw4.heap.size, 0, none⟩, 1, 1⟩ : Slc)))) vw6 Value.string fun (x7 : ByteArray) vw8 =>
    (((x7).size + (s3.2).size : Nat) : Int) ≤ IntKind.i64.max ∧ I5 (IntKind.i64.wrap (Int.tdiv s3.1 10), x7 ++ s3.2) vw8) (Br (decide ((((s3.2).size : Nat) : Int) < least2)) (Nw vw4 (.cells #[.int .u8 (IntKind.u8.wrap (IntKind.i64.wrap (48 + (Int.tmod s3.1 10))))] 5) fun vw9 =>
      Rn Tryd.prog (convert 56 9 (Slc.v ((⟨some ⟨vw4.heap.size, 0, none⟩, 1, 1⟩ : Slc)))) vw9 Value.string fun (x10 : ByteArray) vw11 =>
      (((x10).size + (s3.2).size : Nat) : Int) ≤ IntKind.i64.max ∧ I5 (IntKind.i64.wrap (Int.tdiv s3.1 10), x10 ++ s3.2) vw11) (R s3.2 vw4))
/-- foliant/fix.row -/
def S15 (n1 : Int) (least2 : Int) (w : World) (R : ByteArray → World → Prop) : Prop :=
  Lp (σ := Int × ByteArray) (S15L1 least2 R) (n1, (⟨#[]⟩ : ByteArray)) w
def pl15 : Plan := (.seq (.reg .seq) (.seq (.reg .seq) (.seq (.block (.loop [(0, (.one (.int .i64))), (5, (.one .str))] [1] (.seq (.seq (.reg .seq) (.cond .leaf .leaf)) (.block (.seq (.reg .seq) (.reg .seq)))))) (.seq (.reg .seq) .leaf))))
set_option maxRecDepth 100000 in
theorem T15 (n1 : Int) (least2 : Int) (w : World) (R : ByteArray → World → Prop) (h : S15 n1 least2 w R) : C15 n1 least2 w R := by
  have e : fnT Tryd.prog ⟨FF, MAY, (fun _ _ => False)⟩ pl15 Tryd.f15 [.int .i64 n1, .int .i64 least2] w [(.one .str)] (fun s w => R s w) = S15 n1 least2 w R := by kernel_rfl
  exact (fn_calls okF okM Tryd.func15 (by kernel_rfl) (by kernel_rfl) (e.mpr h)).mono fun _ _ ⟨s, he, hR⟩ => ⟨s, he, hR⟩



/-- foliant/fix.Text -/
def S5 (n1 : Int) (w : World) (R : ByteArray → World → Prop) : Prop :=
  C14 n1 w fun r4 vw5 =>
    Br (!r4) (R (⟨#[]⟩ : ByteArray) vw5) (Br (decide (n1 < 0)) (C15 (IntKind.i64.wrap (Int.tdiv (IntKind.i64.wrap (0 - n1)) 10000)) 1 vw5 fun r6 vw7 =>
          C15 (Int.tmod (IntKind.i64.wrap (0 - n1)) 10000) 4 vw7 fun r8 vw9 =>
            C16 r8 (⟨#[48]⟩ : ByteArray) vw9 fun r10 vw11 =>
              Br (r10.toList == (⟨#[]⟩ : ByteArray).toList) (((((⟨#[45]⟩ : ByteArray)).size + (r6).size : Nat) : Int) ≤ IntKind.i64.max ∧ ((((⟨#[45]⟩ : ByteArray) ++ r6).size + ((⟨#[46]⟩ : ByteArray)).size : Nat) : Int) ≤ IntKind.i64.max ∧ (((((⟨#[45]⟩ : ByteArray) ++ r6) ++ (⟨#[46]⟩ : ByteArray)).size + ((⟨#[48]⟩ : ByteArray)).size : Nat) : Int) ≤ IntKind.i64.max ∧ R ((((⟨#[45]⟩ : ByteArray) ++ r6) ++ (⟨#[46]⟩ : ByteArray)) ++ (⟨#[48]⟩ : ByteArray)) vw11) (((((⟨#[45]⟩ : ByteArray)).size + (r6).size : Nat) : Int) ≤ IntKind.i64.max ∧ ((((⟨#[45]⟩ : ByteArray) ++ r6).size + ((⟨#[46]⟩ : ByteArray)).size : Nat) : Int) ≤ IntKind.i64.max ∧ (((((⟨#[45]⟩ : ByteArray) ++ r6) ++ (⟨#[46]⟩ : ByteArray)).size + (r10).size : Nat) : Int) ≤ IntKind.i64.max ∧ R ((((⟨#[45]⟩ : ByteArray) ++ r6) ++ (⟨#[46]⟩ : ByteArray)) ++ r10) vw11)) (C15 (IntKind.i64.wrap (Int.tdiv n1 10000)) 1 vw5 fun r12 vw13 =>
          C15 (Int.tmod n1 10000) 4 vw13 fun r14 vw15 =>
            C16 r14 (⟨#[48]⟩ : ByteArray) vw15 fun r16 vw17 =>
              Br (r16.toList == (⟨#[]⟩ : ByteArray).toList) (((((⟨#[]⟩ : ByteArray)).size + (r12).size : Nat) : Int) ≤ IntKind.i64.max ∧ ((((⟨#[]⟩ : ByteArray) ++ r12).size + ((⟨#[46]⟩ : ByteArray)).size : Nat) : Int) ≤ IntKind.i64.max ∧ (((((⟨#[]⟩ : ByteArray) ++ r12) ++ (⟨#[46]⟩ : ByteArray)).size + ((⟨#[48]⟩ : ByteArray)).size : Nat) : Int) ≤ IntKind.i64.max ∧ R ((((⟨#[]⟩ : ByteArray) ++ r12) ++ (⟨#[46]⟩ : ByteArray)) ++ (⟨#[48]⟩ : ByteArray)) vw17) (((((⟨#[]⟩ : ByteArray)).size + (r12).size : Nat) : Int) ≤ IntKind.i64.max ∧ ((((⟨#[]⟩ : ByteArray) ++ r12).size + ((⟨#[46]⟩ : ByteArray)).size : Nat) : Int) ≤ IntKind.i64.max ∧ (((((⟨#[]⟩ : ByteArray) ++ r12) ++ (⟨#[46]⟩ : ByteArray)).size + (r16).size : Nat) : Int) ≤ IntKind.i64.max ∧ R ((((⟨#[]⟩ : ByteArray) ++ r12) ++ (⟨#[46]⟩ : ByteArray)) ++ r16) vw17)))
def pl5 : Plan := (.seq (.reg .seq) (.seq (.seq (.reg .seq) (.cond (.seq (.reg .seq) .leaf) .leaf)) (.seq (.reg .seq) (.seq (.seq (.reg .seq) (.cond (.reg .seq) .leaf)) (.seq (.reg .seq) (.seq (.reg .seq) (.seq (.seq (.reg .seq) (.cond (.reg .seq) .leaf)) (.seq (.reg .seq) .leaf))))))))
set_option maxRecDepth 100000 in
theorem T5 (n1 : Int) (w : World) (R : ByteArray → World → Prop) (h : S5 n1 w R) : C5 n1 w R := by
  have e : fnT Tryd.prog ⟨FF, MAY, (fun _ _ => False)⟩ pl5 Tryd.f5 [.int .i64 n1] w [(.one .str)] (fun s w => R s w) = S5 n1 w R := by kernel_rfl
  exact (fn_calls okF okM Tryd.func5 (by kernel_rfl) (by kernel_rfl) (e.mpr h)).mono fun _ _ ⟨s, he, hR⟩ => ⟨s, he, hR⟩



/-- foliant/fix.face -/
def S91_nil (n1 : Option Addr) (ve2 : Option Addr) (w : World) (R : World → Prop) : Prop :=
  R w
def pl91_nil : Plan := (.block (.seq (.reg .seq) (.cond (.reg .seq) (.seq (.reg .seq) (.cond (.seq (.reg .seq) (.reg .seq)) (.seq (.reg .seq) (.reg .seq)))))))
set_option maxRecDepth 100000 in
theorem T91_nil (n1 : Option Addr) (ve2 : Option Addr) (w : World) (R : World → Prop) (h : S91_nil n1 ve2 w R) : CD91 n1 ve2 none w R := by
  have e : fnTS Tryd.prog FF MAY pl91_nil Tryd.f91 [.pointer n1, .pointer ve2] none w R = S91_nil n1 ve2 w R := by kernel_rfl
  exact fnS_calls okF okM Tryd.func91 (by kernel_rfl) (by kernel_rfl) (e.mpr h)

/-- foliant/fix.face -/
def S91_T128 (n1 : Option Addr) (ve2 : Option Addr) (u3 : Int) (w : World) (R : World → Prop) : Prop :=
  Nn n1 fun a4 =>
  St w a4 (.int .i64 0) fun vw5 =>
  Nn ve2 fun a6 =>
  St vw5 a6 (.int .i64 u3) fun vw7 =>
  R vw7
def pl91_T128 : Plan := (.block (.seq (.reg .seq) (.cond (.reg .seq) (.seq (.reg .seq) (.cond (.seq (.reg .seq) (.reg .seq)) (.seq (.reg .seq) (.reg .seq)))))))
set_option maxRecDepth 100000 in
theorem T91_T128 (n1 : Option Addr) (ve2 : Option Addr) (u3 : Int) (w : World) (R : World → Prop) (h : S91_T128 n1 ve2 u3 w R) : CD91 n1 ve2 (some (.iface 128 (.int .i64 u3))) w R := by
  have e : fnTS Tryd.prog FF MAY pl91_T128 Tryd.f91 [.pointer n1, .pointer ve2] (some (.iface 128 (.int .i64 u3))) w R = S91_T128 n1 ve2 u3 w R := by kernel_rfl
  exact fnS_calls okF okM Tryd.func91 (by kernel_rfl) (by kernel_rfl) (e.mpr h)



/-- internal/stringslite.Cut -/
def S100 (s1 : ByteArray) (sep2 : ByteArray) (w : World) (R : ByteArray → ByteArray → Bool → World → Prop) : Prop :=
  C41 s1 sep2 w fun r3 vw4 =>
    Br (decide (r3 ≥ 0)) (0 ≤ r3 ∧ r3 ≤ (((s1).size : Nat) : Int) ∧ 0 ≤ (IntKind.i64.wrap (r3 + (((sep2).size : Nat) : Int))) ∧ (IntKind.i64.wrap (r3 + (((sep2).size : Nat) : Int))) ≤ (((s1).size : Nat) : Int) ∧ R (s1.extract 0 ((r3).toNat)) (s1.extract ((IntKind.i64.wrap (r3 + (((sep2).size : Nat) : Int))).toNat) ((s1).size)) true vw4.drew) (R s1 (⟨#[]⟩ : ByteArray) false vw4)
def pl100 : Plan := (.seq (.reg .seq) (.seq (.seq (.reg .seq) (.seq (.reg .seq) (.cond (.seq (.reg .still) .leaf) .leaf))) (.seq (.reg .seq) .leaf)))
set_option maxRecDepth 100000 in
theorem T100 (s1 : ByteArray) (sep2 : ByteArray) (w : World) (R : ByteArray → ByteArray → Bool → World → Prop) (h : S100 s1 sep2 w R) : C100 s1 sep2 w R := by
  have e : fnT Tryd.prog ⟨FF, MAY, (fun _ _ => False)⟩ pl100 Tryd.f100 [.string s1, .string sep2] w [(.one .str), (.one .str), (.one .bool)] (fun s w => R s.1 s.2.1 s.2.2 w) = S100 s1 sep2 w R := by kernel_rfl
  exact (fn_calls okF okM Tryd.func100 (by kernel_rfl) (by kernel_rfl) (e.mpr h)).mono fun _ _ ⟨s, he, hR⟩ => ⟨s.1, s.2.1, s.2.2, he, hR⟩

/-- strings.Cut -/
def S92 (s1 : ByteArray) (sep2 : ByteArray) (w : World) (R : ByteArray → ByteArray → Bool → World → Prop) : Prop :=
  C100 s1 sep2 w fun r3 r4 r5 vw6 =>
    R r3 r4 r5 vw6
def pl92 : Plan := (.seq (.reg .seq) (.seq (.reg .seq) .leaf))
set_option maxRecDepth 100000 in
theorem T92 (s1 : ByteArray) (sep2 : ByteArray) (w : World) (R : ByteArray → ByteArray → Bool → World → Prop) (h : S92 s1 sep2 w R) : C92 s1 sep2 w R := by
  have e : fnT Tryd.prog ⟨FF, MAY, (fun _ _ => False)⟩ pl92 Tryd.f92 [.string s1, .string sep2] w [(.one .str), (.one .str), (.one .bool)] (fun s w => R s.1 s.2.1 s.2.2 w) = S92 s1 sep2 w R := by kernel_rfl
  exact (fn_calls okF okM Tryd.func92 (by kernel_rfl) (by kernel_rfl) (e.mpr h)).mono fun _ _ ⟨s, he, hR⟩ => ⟨s.1, s.2.1, s.2.2, he, hR⟩



/-- foliant/fix.digits -/
def S93 (s1 : ByteArray) (w : World) (R : Bool → World → Prop) : Prop :=
  C89 s1 (⟨#[48, 49, 50, 51, 52, 53, 54, 55, 56, 57]⟩ : ByteArray) w fun r2 vw3 =>
    R (r2.toList == (⟨#[]⟩ : ByteArray).toList) vw3
def pl93 : Plan := (.seq (.reg .seq) (.seq (.reg .seq) .leaf))
set_option maxRecDepth 100000 in
theorem T93 (s1 : ByteArray) (w : World) (R : Bool → World → Prop) (h : S93 s1 w R) : C93 s1 w R := by
  have e : fnT Tryd.prog ⟨FF, MAY, (fun _ _ => False)⟩ pl93 Tryd.f93 [.string s1] w [(.one .bool)] (fun s w => R s w) = S93 s1 w R := by kernel_rfl
  exact (fn_calls okF okM Tryd.func93 (by kernel_rfl) (by kernel_rfl) (e.mpr h)).mono fun _ _ ⟨s, he, hR⟩ => ⟨s, he, hR⟩

def S94L1 (l1 : Slc) (R : World → Prop) (PR : Value → World → Prop) (I4 : Int → World → Prop) (s2 : Int) (vw3 : World) : Prop :=
  Br (decide (s2 < ((l1.len : Nat) : Int))) (0 ≤ s2 ∧ s2 < (l1.len : Nat) ∧ Nn l1.p fun a5 =>
    Ld vw3 (a5.add ((s2).toNat * 1)) (Value.int .i64) fun (x6 : Int) =>
    C14 x6 vw3 fun r7 vw8 =>
      Br (!r7) (PR (.iface 128 (.int .i64 2)) vw8) (I4 (IntKind.i64.wrap (s2 + 1)) vw8)) (R vw3)
/-- foliant/fix.bounded -/
def S94 (l1 : Slc) (w : World) (R : World → Prop) (PR : Value → World → Prop) : Prop :=
  Lp (σ := Int) (S94L1 l1 R PR) 0 w
def pl94 : Plan := (.seq (.reg .seq) (.block (.loop [(6, (.one (.int .i64)))] [4, 5] (.seq (.reg .seq) (.seq (.cond .leaf .leaf) (.seq (.block (.seq (.reg .seq) (.seq (.reg .seq) (.cond (.reg .seq) .leaf)))) (.reg .seq)))))))
set_option maxRecDepth 100000 in
theorem T94 (l1 : Slc) (w : World) (R : World → Prop) (PR : Value → World → Prop) (h : S94 l1 w R PR) : C94 l1 w R PR := by
  have e : fnT Tryd.prog ⟨FF, MAY, PR⟩ pl94 Tryd.f94 [Slc.v l1] w [] (fun _ w => R w) = S94 l1 w R PR := by kernel_rfl
  exact (fn_callsP okF okM Tryd.func94 (by kernel_rfl) (by kernel_rfl) (e.mpr h)).mono fun _ _ he => he.elim (fun ⟨_, he, hR⟩ => .inl ⟨he, hR⟩) .inr

def S76P (w : World) (vw2 : World) (R : Int → Int → World → Prop) (x5 : Value) (vw4 : World) : Prop :=
  CD91 (some (⟨w.heap.size, 0, none⟩ : Addr)) (some (⟨vw2.heap.size, 0, none⟩ : Addr)) (some x5) vw4 fun vw6 =>
    Ld vw6 (⟨w.heap.size, 0, none⟩ : Addr) (Value.int .i64) fun (x7 : Int) =>
    Ld vw6 (⟨vw2.heap.size, 0, none⟩ : Addr) (Value.int .i64) fun (x8 : Int) =>
    R x7 x8 vw6
def S76J1 (w : World) (vw2 : World) (r16 : Bool) (R : Int → Int → World → Prop) (s114 : Unit) (vw115 : World) : Prop :=
  Br r16 (Ld vw115 (⟨w.heap.size, 0, none⟩ : Addr) (Value.int .i64) fun (x118 : Int) =>
    St vw115 (⟨w.heap.size, 0, none⟩ : Addr) (.int .i64 (IntKind.i64.wrap (0 - x118))) fun vw119 =>
    Ld vw119 (⟨w.heap.size, 0, none⟩ : Addr) (Value.int .i64) fun (x120 : Int) =>
    Nw vw119 (.cells #[.int .i64 x120] 2) fun vw121 =>
    C94 (⟨some ⟨vw119.heap.size, 0, none⟩, 1, 1⟩ : Slc) vw121 (fun vw122 =>
      Ld vw122 (⟨w.heap.size, 0, none⟩ : Addr) (Value.int .i64) fun (x123 : Int) =>
      St vw122 (⟨w.heap.size, 0, none⟩ : Addr) (.int .i64 x123) fun vw124 =>
      St vw124 (⟨vw2.heap.size, 0, none⟩ : Addr) (.int .i64 0) fun vw125 =>
      CD91 (some (⟨w.heap.size, 0, none⟩ : Addr)) (some (⟨vw2.heap.size, 0, none⟩ : Addr)) none vw125 fun vw126 =>
        Ld vw126 (⟨w.heap.size, 0, none⟩ : Addr) (Value.int .i64) fun (x127 : Int) =>
        Ld vw126 (⟨vw2.heap.size, 0, none⟩ : Addr) (Value.int .i64) fun (x128 : Int) =>
        R x127 x128 vw126) (S76P w vw2 R)) (Ld vw115 (⟨w.heap.size, 0, none⟩ : Addr) (Value.int .i64) fun (x129 : Int) =>
    Nw vw115 (.cells #[.int .i64 x129] 2) fun vw130 =>
    C94 (⟨some ⟨vw115.heap.size, 0, none⟩, 1, 1⟩ : Slc) vw130 (fun vw131 =>
      Ld vw131 (⟨w.heap.size, 0, none⟩ : Addr) (Value.int .i64) fun (x132 : Int) =>
      St vw131 (⟨w.heap.size, 0, none⟩ : Addr) (.int .i64 x132) fun vw133 =>
      St vw133 (⟨vw2.heap.size, 0, none⟩ : Addr) (.int .i64 0) fun vw134 =>
      CD91 (some (⟨w.heap.size, 0, none⟩ : Addr)) (some (⟨vw2.heap.size, 0, none⟩ : Addr)) none vw134 fun vw135 =>
        Ld vw135 (⟨w.heap.size, 0, none⟩ : Addr) (Value.int .i64) fun (x136 : Int) =>
        Ld vw135 (⟨vw2.heap.size, 0, none⟩ : Addr) (Value.int .i64) fun (x137 : Int) =>
        R x136 x137 vw135) (S76P w vw2 R))
def S76L1 (w : World) (vw2 : World) (r16 : Bool) (r23 : ByteArray) (vw70 : World) (R : Int → Int → World → Prop) (I97 : Unit → World → Prop) (s95 : Unit) (vw96 : World) : Prop :=
  Nx vw96 (⟨vw70.heap.size, 0, none⟩ : Addr) (fun (i98 : Int) (ch99 : Int) (vw100 : World) =>
    Ld vw100 (⟨w.heap.size, 0, none⟩ : Addr) (Value.int .i64) fun (x101 : Int) =>
    Lt (IntKind.i64.wrap ((IntKind.i64.wrap (10 * x101)) + (IntKind.i64.wrap (IntKind.i32.wrap (ch99 - 48))))) fun (x102 : Int) =>
    St vw100 (⟨w.heap.size, 0, none⟩ : Addr) (.int .i64 x102) fun vw103 =>
    I97 () vw103) (0 ≤ (4 : Int) ∧ (4 : Int) ≤ (((r23 ++ (⟨#[48, 48, 48, 48, 48]⟩ : ByteArray)).size : Nat) : Int) ∧ Lt ((r23 ++ (⟨#[48, 48, 48, 48, 48]⟩ : ByteArray)).extract (((4 : Int)).toNat) ((r23 ++ (⟨#[48, 48, 48, 48, 48]⟩ : ByteArray)).size)) fun (x104 : ByteArray) =>
    C16 x104 (⟨#[48]⟩ : ByteArray) vw96 fun r105 vw106 =>
      Join (S76J1 w vw2 r16 R) fun (vJ138 : Unit → World → Prop) =>
        Br r16 (Lt (!((Op.bytesLess r105.toList (⟨#[53]⟩ : ByteArray).toList) || (r105.toList == (⟨#[53]⟩ : ByteArray).toList))) fun (x139 : Bool) =>
          Br x139 (Ld vw106 (⟨w.heap.size, 0, none⟩ : Addr) (Value.int .i64) fun (x140 : Int) =>
            St vw106 (⟨w.heap.size, 0, none⟩ : Addr) (.int .i64 (IntKind.i64.wrap (x140 + 1))) fun vw141 =>
            vJ138 () vw141) (Br (!r16) (Br (!(Op.bytesLess r105.toList (⟨#[53]⟩ : ByteArray).toList)) (Ld vw106 (⟨w.heap.size, 0, none⟩ : Addr) (Value.int .i64) fun (x142 : Int) =>
                St vw106 (⟨w.heap.size, 0, none⟩ : Addr) (.int .i64 (IntKind.i64.wrap (x142 + 1))) fun vw143 =>
                vJ138 () vw143) (vJ138 () vw106)) (vJ138 () vw106))) (Br (!r16) (Br (!(Op.bytesLess r105.toList (⟨#[53]⟩ : ByteArray).toList)) (Ld vw106 (⟨w.heap.size, 0, none⟩ : Addr) (Value.int .i64) fun (x144 : Int) =>
              St vw106 (⟨w.heap.size, 0, none⟩ : Addr) (.int .i64 (IntKind.i64.wrap (x144 + 1))) fun vw145 =>
              vJ138 () vw145) (vJ138 () vw106)) (vJ138 () vw106)))
def S76L2 (w : World) (vw2 : World) (r16 : Bool) (r23 : ByteArray) (vw49 : World) (R : Int → Int → World → Prop) (I71 : Unit → World → Prop) (s69 : Unit) (vw70 : World) : Prop :=
  Nx vw70 (⟨vw49.heap.size, 0, none⟩ : Addr) (fun (i72 : Int) (ch73 : Int) (vw74 : World) =>
    Ld vw74 (⟨w.heap.size, 0, none⟩ : Addr) (Value.int .i64) fun (x75 : Int) =>
    Lt (IntKind.i64.wrap ((IntKind.i64.wrap (10 * x75)) + (IntKind.i64.wrap (IntKind.i32.wrap (ch73 - 48))))) fun (x76 : Int) =>
    St vw74 (⟨w.heap.size, 0, none⟩ : Addr) (.int .i64 x76) fun vw77 =>
    Ld vw77 (⟨w.heap.size, 0, none⟩ : Addr) (Value.int .i64) fun (x78 : Int) =>
    Br (decide (x78 > 1073741824)) (St vw77 (⟨w.heap.size, 0, none⟩ : Addr) (.int .i64 0) fun vw79 =>
      St vw79 (⟨vw2.heap.size, 0, none⟩ : Addr) (.int .i64 2) fun vw80 =>
      CD91 (some (⟨w.heap.size, 0, none⟩ : Addr)) (some (⟨vw2.heap.size, 0, none⟩ : Addr)) none vw80 fun vw81 =>
        Ld vw81 (⟨w.heap.size, 0, none⟩ : Addr) (Value.int .i64) fun (x82 : Int) =>
        Ld vw81 (⟨vw2.heap.size, 0, none⟩ : Addr) (Value.int .i64) fun (x83 : Int) =>
        R x82 x83 vw81) (I71 () vw77)) ((((r23).size + ((⟨#[48, 48, 48, 48, 48]⟩ : ByteArray)).size : Nat) : Int) ≤ IntKind.i64.max ∧ 0 ≤ (4 : Int) ∧ (4 : Int) ≤ (((r23 ++ (⟨#[48, 48, 48, 48, 48]⟩ : ByteArray)).size : Nat) : Int) ∧ Nw vw70 (.stringIter ((r23 ++ (⟨#[48, 48, 48, 48, 48]⟩ : ByteArray)).extract 0 (((4 : Int)).toNat)) 0) fun vw94 =>
    Lp (σ := Unit) (S76L1 w vw2 r16 r23 vw70 R) () vw94)
def S76J2 (w : World) (vw2 : World) (r16 : Bool) (R : Int → Int → World → Prop) (s20 : ByteArray) (vw21 : World) : Prop :=
  C92 s20 (⟨#[46]⟩ : ByteArray) vw21 fun r22 r23 r24 vw25 =>
    (((r22).size + (r23).size : Nat) : Int) ≤ IntKind.i64.max ∧ Br ((r22 ++ r23).toList == (⟨#[]⟩ : ByteArray).toList) (St vw25 (⟨w.heap.size, 0, none⟩ : Addr) (.int .i64 0) fun vw36 =>
      St vw36 (⟨vw2.heap.size, 0, none⟩ : Addr) (.int .i64 3) fun vw37 =>
      CD91 (some (⟨w.heap.size, 0, none⟩ : Addr)) (some (⟨vw2.heap.size, 0, none⟩ : Addr)) none vw37 fun vw38 =>
        Ld vw38 (⟨w.heap.size, 0, none⟩ : Addr) (Value.int .i64) fun (x39 : Int) =>
        Ld vw38 (⟨vw2.heap.size, 0, none⟩ : Addr) (Value.int .i64) fun (x40 : Int) =>
        R x39 x40 vw38) (C93 r22 vw25 fun r41 vw42 =>
        Br (!r41) (St vw42 (⟨w.heap.size, 0, none⟩ : Addr) (.int .i64 0) fun vw43 =>
          St vw43 (⟨vw2.heap.size, 0, none⟩ : Addr) (.int .i64 3) fun vw44 =>
          CD91 (some (⟨w.heap.size, 0, none⟩ : Addr)) (some (⟨vw2.heap.size, 0, none⟩ : Addr)) none vw44 fun vw45 =>
            Ld vw45 (⟨w.heap.size, 0, none⟩ : Addr) (Value.int .i64) fun (x46 : Int) =>
            Ld vw45 (⟨vw2.heap.size, 0, none⟩ : Addr) (Value.int .i64) fun (x47 : Int) =>
            R x46 x47 vw45) (C93 r23 vw42 fun r48 vw49 =>
            Br (!r48) (St vw49 (⟨w.heap.size, 0, none⟩ : Addr) (.int .i64 0) fun vw50 =>
              St vw50 (⟨vw2.heap.size, 0, none⟩ : Addr) (.int .i64 3) fun vw51 =>
              CD91 (some (⟨w.heap.size, 0, none⟩ : Addr)) (some (⟨vw2.heap.size, 0, none⟩ : Addr)) none vw51 fun vw52 =>
                Ld vw52 (⟨w.heap.size, 0, none⟩ : Addr) (Value.int .i64) fun (x53 : Int) =>
                Ld vw52 (⟨vw2.heap.size, 0, none⟩ : Addr) (Value.int .i64) fun (x54 : Int) =>
                R x53 x54 vw52) (Nw vw49 (.stringIter r22 0) fun vw68 =>
              Lp (σ := Unit) (S76L2 w vw2 r16 r23 vw49 R) () vw68)))
/-- foliant/fix.Read -/
def S76 (s1 : ByteArray) (w : World) (R : Int → Int → World → Prop) : Prop :=
  Nw w (.cells #[.int .i64 0] 2) fun vw2 =>
  Nw vw2 (.cells #[.int .i64 0] 23) fun vw3 =>
  Br (decide ((((s1).size : Nat) : Int) > 40)) (St vw3 (⟨w.heap.size, 0, none⟩ : Addr) (.int .i64 0) fun vw11 =>
    St vw11 (⟨vw2.heap.size, 0, none⟩ : Addr) (.int .i64 3) fun vw12 =>
    CD91 (some (⟨w.heap.size, 0, none⟩ : Addr)) (some (⟨vw2.heap.size, 0, none⟩ : Addr)) none vw12 fun vw13 =>
      Ld vw13 (⟨w.heap.size, 0, none⟩ : Addr) (Value.int .i64) fun (x14 : Int) =>
      Ld vw13 (⟨vw2.heap.size, 0, none⟩ : Addr) (Value.int .i64) fun (x15 : Int) =>
      R x14 x15 vw13) (C67 s1 (⟨#[45]⟩ : ByteArray) vw3 fun r16 vw17 =>
      Join (S76J2 w vw2 r16 R) fun (vJ146 : ByteArray → World → Prop) =>
        Br r16 (0 ≤ (1 : Int) ∧ (1 : Int) ≤ (((s1).size : Nat) : Int) ∧ vJ146 (s1.extract (((1 : Int)).toNat) ((s1).size)) vw17) (C67 s1 (⟨#[43]⟩ : ByteArray) vw17 fun r147 vw148 =>
            Br r147 (0 ≤ (1 : Int) ∧ (1 : Int) ≤ (((s1).size : Nat) : Int) ∧ vJ146 (s1.extract (((1 : Int)).toNat) ((s1).size)) vw148) (vJ146 s1 vw148)))
def pl76 : DPlan := (.pre (.reg .seq) (.here [2, 3] (.seq (.seq (.reg .seq) (.cond (.seq (.reg .seq) .leaf) .leaf)) (.seq (.reg .seq) (.join [(0, (.one .str))] [2, 3, 4] (.seq (.reg .seq) (.cond (.reg .seq) .leaf)) (.seq (.reg .seq) (.seq (.seq (.reg .seq) (.cond (.seq (.reg .seq) .leaf) .leaf)) (.seq (.seq (.reg .seq) (.block (.loop [] [2, 3, 4, 6, 46] (.seq (.reg .seq) (.seq (.cond .leaf .leaf) (.block (.seq (.reg .seq) (.seq (.reg .seq) (.seq (.reg .seq) (.cond (.seq (.reg .seq) .leaf) .leaf)))))))))) (.seq (.reg .seq) (.seq (.seq (.reg .seq) (.block (.loop [] [2, 3, 4, 6, 62] (.seq (.reg .seq) (.seq (.cond .leaf .leaf) (.block (.seq (.reg .seq) (.reg .seq)))))))) (.seq (.reg .seq) (.join [] [2, 3, 4] (.seq (.reg .seq) (.cond (.reg .seq) .leaf)) (.seq (.seq (.reg .seq) (.cond (.reg .seq) .leaf)) (.seq (.reg .seq) (.seq (.reg .seq) .leaf)))))))))))))))
set_option maxRecDepth 100000 in
theorem T76 (s1 : ByteArray) (w : World) (R : Int → Int → World → Prop) (h : S76 s1 w R) : C76 s1 w R := by
  have e : fnTD Tryd.prog FF MAY (fun _ _ => False) pl76 Tryd.f76 [.string s1] w [(.one (.int .i64)), (.one (.int .i64))] (fun s w => R s.1 s.2 w) = S76 s1 w R := by kernel_rfl
  exact (fnD_calls okF okM Tryd.func76 (by kernel_rfl) (by kernel_rfl) (e.mpr h)).mono fun _ _ ⟨s, he, hR⟩ => ⟨s.1, s.2, he, hR⟩

/-- foliant/plain.Real -/
def S6 (n1 : Int) (w : World) (R : ByteArray → Int → World → Prop) : Prop :=
  Br (decide (n1 < (-1073741824))) (R (⟨#[]⟩ : ByteArray) 2 w) (Br (decide (n1 > 1073741824)) (R (⟨#[]⟩ : ByteArray) 2 w) (C5 n1 w fun r2 vw3 =>
        R r2 0 vw3))
def pl6 : Plan := (.seq (.reg .seq) (.seq (.seq (.reg .seq) (.cond (.seq (.reg .seq) .leaf) .leaf)) (.seq (.reg .seq) .leaf)))
set_option maxRecDepth 100000 in
theorem T6 (n1 : Int) (w : World) (R : ByteArray → Int → World → Prop) (h : S6 n1 w R) : C6 n1 w R := by
  have e : fnT Tryd.prog ⟨FF, MAY, (fun _ _ => False)⟩ pl6 Tryd.f6 [.int .i64 n1] w [(.one .str), (.one (.int .i64))] (fun s w => R s.1 s.2 w) = S6 n1 w R := by kernel_rfl
  exact (fn_calls okF okM Tryd.func6 (by kernel_rfl) (by kernel_rfl) (e.mpr h)).mono fun _ _ ⟨s, he, hR⟩ => ⟨s.1, s.2, he, hR⟩

end Go.Proofs.YtpkadliieplblaaDoor
