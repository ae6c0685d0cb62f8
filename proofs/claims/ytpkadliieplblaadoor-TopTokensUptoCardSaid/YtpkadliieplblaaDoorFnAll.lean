/- The formulas of the parts of lex.All, written by program (allfn.py); the kernel checks each. No condition. -/
import Derived.Test.YtpkadliieplblaaDoorFn
import Derived.Test.YtpkadliieplblaaDoorFnTkY
import Derived.Test.YtpkadliieplblaaDoorShZ
namespace Go.Proofs.YtpkadliieplblaaDoor
open Sh
set_option linter.unusedVariables false
set_option maxRecDepth 100000
noncomputable def sq1 : Code → Code | .seq a _ => a | c => c
def sq2 : Code → Code | .seq _ b => b | c => c
def bk : Code → Code | .block _ b => b | c => c
def rfa : Code → Code | .rangeFunc _ _ a _ => a | c => c
def rfb : Code → Code | .rangeFunc _ _ _ b => b | c => c
noncomputable def cAllA : Code := (sq1 (Tryd.f7.body.getD .skip))
def pAllA : Plan := (.reg .seq)
def SAllA (s1 : ByteArray) (w : World) (R : Env → World → Prop) : Prop :=
  Nw w (.cells #[Slc.v ((⟨none, 0, 0⟩ : Slc))] 26) fun vw1 =>
  Nw vw1 (.cells #[.int .i64 0, .int .i64 0] 28) fun vw2 =>
  R [(3, .pointer (some (⟨vw1.heap.size, 0, none⟩ : Addr))), (2, .pointer (some (⟨w.heap.size, 0, none⟩ : Addr))), (0, .string s1)] vw2
set_option maxRecDepth 100000 in
theorem EAllA (s1 : ByteArray) (w : World) (R : Env → World → Prop) : codeY Tryd.prog ⟨FF, MAY, (fun _ _ => False)⟩ pAllA cAllA [(0, .string s1)] w (nrm R) = SAllA s1 w R := by kernel_rfl
noncomputable def cAllB : Code := (sq1 (sq2 (Tryd.f7.body.getD .skip)))
def pAllB : Plan := (.reg .seq)
def SAllB (s1 : ByteArray) (a2 : Addr) (a3 : Addr) (w : World) (R : Env → World → Prop) : Prop :=
  Nw w (.cells #[Slc.v ((⟨none, 0, 0⟩ : Slc))] 26) fun vw3 =>
  R [(4, .pointer (some (⟨w.heap.size, 0, none⟩ : Addr))), (3, .pointer (some a3)), (2, .pointer (some a2)), (0, .string s1)] vw3
set_option maxRecDepth 100000 in
theorem EAllB (s1 : ByteArray) (a2 : Addr) (a3 : Addr) (w : World) (R : Env → World → Prop) : codeY Tryd.prog ⟨FF, MAY, (fun _ _ => False)⟩ pAllB cAllB [(3, .pointer (some a3)), (2, .pointer (some a2)), (0, .string s1)] w (nrm R) = SAllB s1 a2 a3 w R := by kernel_rfl
noncomputable def cAllC : Code := (sq1 (sq2 (sq2 (Tryd.f7.body.getD .skip))))
def pAllC : Plan := (.reg .seq)
def SAllC (s1 : ByteArray) (a2 : Addr) (a3 : Addr) (a4 : Addr) (w : World) (R : Env → World → Prop) : Prop :=
  Nw w (.cells #[.int .i64 0, .int .i64 0] 28) fun vw4 =>
  R [(5, .pointer (some (⟨w.heap.size, 0, none⟩ : Addr))), (4, .pointer (some a4)), (3, .pointer (some a3)), (2, .pointer (some a2)), (0, .string s1)] vw4
set_option maxRecDepth 100000 in
theorem EAllC (s1 : ByteArray) (a2 : Addr) (a3 : Addr) (a4 : Addr) (w : World) (R : Env → World → Prop) : codeY Tryd.prog ⟨FF, MAY, (fun _ _ => False)⟩ pAllC cAllC [(4, .pointer (some a4)), (3, .pointer (some a3)), (2, .pointer (some a2)), (0, .string s1)] w (nrm R) = SAllC s1 a2 a3 a4 w R := by kernel_rfl
noncomputable def cAllD : Code := (sq1 (sq1 (sq2 (sq2 (sq2 (Tryd.f7.body.getD .skip))))))
def pAllD : Plan := (.reg .seq)
def SAllD (s1 : ByteArray) (a2 : Addr) (a3 : Addr) (a4 : Addr) (a5 : Addr) (w : World) (R : Env → World → Prop) : Prop :=
  C17 s1 0 (some a5) w fun r5 vw6 =>
    R [(8, r5), (7, .string s1), (5, .pointer (some a5)), (4, .pointer (some a4)), (3, .pointer (some a3)), (2, .pointer (some a2)), (0, .string s1)] vw6
set_option maxRecDepth 100000 in
theorem EAllD (s1 : ByteArray) (a2 : Addr) (a3 : Addr) (a4 : Addr) (a5 : Addr) (w : World) (R : Env → World → Prop) : codeY Tryd.prog ⟨FF, MAY, (fun _ _ => False)⟩ pAllD cAllD [(5, .pointer (some a5)), (4, .pointer (some a4)), (3, .pointer (some a3)), (2, .pointer (some a2)), (0, .string s1)] w (nrm R) = SAllD s1 a2 a3 a4 a5 w R := by kernel_rfl
noncomputable def cAllE : Code := (rfa (bk (sq2 (sq1 (sq2 (sq2 (sq2 (Tryd.f7.body.getD .skip))))))))
def pAllE : Plan := (.reg .seq)
def SAllE (a4 : Addr) (x : Int × Int × Int × Int × ByteArray) (w : World) (R : Env → World → Prop) : Prop :=
  Nw w (.cells #[.int .i64 0, .int .i64 0, .int .i64 0, .int .i64 0, .string ((⟨#[]⟩ : ByteArray))] 32) fun vw7 =>
  St vw7 (⟨w.heap.size, 0, none⟩ : Addr) (.int .i64 (x.1)) fun vw8 =>
  St vw8 ((⟨w.heap.size, 0, none⟩ : Addr).add 1) (.int .i64 (x.2.1)) fun vw9 =>
  St vw9 ((⟨w.heap.size, 0, none⟩ : Addr).add 2) (.int .i64 (x.2.2.1)) fun vw10 =>
  St vw10 ((⟨w.heap.size, 0, none⟩ : Addr).add 3) (.int .i64 (x.2.2.2.1)) fun vw11 =>
  St vw11 ((⟨w.heap.size, 0, none⟩ : Addr).add 4) (.string x.2.2.2.2) fun vw12 =>
  R [(6, .pointer (some (⟨w.heap.size, 0, none⟩ : Addr))), (9, .agg #[.int .i64 (x.1), .int .i64 (x.2.1), .int .i64 (x.2.2.1), .int .i64 (x.2.2.2.1), .string x.2.2.2.2]), (4, .pointer (some a4))] vw12
set_option maxRecDepth 100000 in
theorem EAllE (a4 : Addr) (x : Int × Int × Int × Int × ByteArray) (w : World) (R : Env → World → Prop) : codeY Tryd.prog ⟨FF, MAY, (fun _ _ => False)⟩ pAllE cAllE [(9, .agg #[.int .i64 (x.1), .int .i64 (x.2.1), .int .i64 (x.2.2.1), .int .i64 (x.2.2.2.1), .string x.2.2.2.2]), (4, .pointer (some a4))] w (nrm R) = SAllE a4 x w R := by kernel_rfl
noncomputable def cAllF : Code := (rfb (bk (sq2 (sq1 (sq2 (sq2 (sq2 (Tryd.f7.body.getD .skip))))))))
def pAllF : Plan := (.block (.seq (.seq (.reg .seq) (.cond (.seq (.reg .seq) .leaf) .leaf)) (.reg .seq)))
def SAllF (a4 : Addr) (a6 : Addr) (x : Int × Int × Int × Int × ByteArray) (w : World) (R : World → Prop) : Prop :=
  Ld w a4 Slc.v fun (x13 : Slc) =>
  Br (((x13.len : Nat) : Int) == 1048576) (False) (Ld w a4 Slc.v fun (x14 : Slc) =>
    Ld w a6 (Value.int .i64) fun (x15 : Int) =>
    Ld w (a6.add 1) (Value.int .i64) fun (x16 : Int) =>
    Ld w (a6.add 2) (Value.int .i64) fun (x17 : Int) =>
    Ld w (a6.add 3) (Value.int .i64) fun (x18 : Int) =>
    Ld w (a6.add 4) Value.string fun (x19 : ByteArray) =>
    Nw w (.cells #[.int .i64 x15, .int .i64 x16, .int .i64 x17, .int .i64 x18, .string x19] 32) fun vw20 =>
    Rn Tryd.prog (Builtin.append_ #[26, 26] 26 #[Slc.v x14, Slc.v ((⟨some ⟨w.heap.size, 0, none⟩, 1, 1⟩ : Slc))]) vw20 Slc.v fun (x21 : Slc) vw22 =>
    St vw22 a4 (Slc.v x21) fun vw23 =>
    R vw23)
set_option maxRecDepth 100000 in
theorem EAllF (a4 : Addr) (a6 : Addr) (x : Int × Int × Int × Int × ByteArray) (w : World) (R : World → Prop) : codeY Tryd.prog ⟨FF, MAY, (fun _ _ => False)⟩ pAllF cAllF [(6, .pointer (some a6)), (9, .agg #[.int .i64 (x.1), .int .i64 (x.2.1), .int .i64 (x.2.2.1), .int .i64 (x.2.2.2.1), .string x.2.2.2.2]), (4, .pointer (some a4))] w (nrm fun _ => R) = SAllF a4 a6 x w R := by kernel_rfl
/-- The results' slots, at the end. -/
def rtK (R : Addr → Addr → World → Prop) : Exit → Env → World → Prop := fun e E w => match e with
  | .ret => (match E.get? 2, E.get? 3 with
    | some (.pointer (some a)), some (.pointer (some b)) => R a b w
    | _, _ => False)
  | _ => False
noncomputable def cAllG : Code := (sq2 (sq2 (sq2 (sq2 (Tryd.f7.body.getD .skip)))))
def pAllG : Plan := (.seq (.seq (.reg .seq) (.cond (.seq (.reg (.held [2] (.take 0 (.eff 1 none (.eff 2 (some []) .done))))) .leaf) .leaf)) (.seq (.reg .seq) .leaf))
def SAllG (a2 : Addr) (a3 : Addr) (a4 : Addr) (a5 : Addr) (w : World) (R : Addr → Addr → World → Prop) : Prop :=
  Ld w (a5.add 1) (Value.int .i64) fun (x24 : Int) =>
  Br (x24 != 0) (∃ vS25 : World → Prop, vS25 w.drew ∧ LdS vS25 a5 (Value.int .i64) fun (x26 : Int) =>
    LdS vS25 (a5.add 1) (Value.int .i64) fun (x27 : Int) =>
    St w.drew a2 (Slc.v ((⟨none, 0, 0⟩ : Slc))) fun vw28 =>
    vS25 vw28 ∧ St vw28 a3 (.int .i64 x26) fun vw29 =>
    St vw29 (a3.add 1) (.int .i64 x27) fun vw30 =>
    R a2 a3 vw30) (Ld w a4 Slc.v fun (x31 : Slc) =>
    St w a2 (Slc.v x31) fun vw32 =>
    St vw32 a3 (.int .i64 0) fun vw33 =>
    St vw33 (a3.add 1) (.int .i64 0) fun vw34 =>
    R a2 a3 vw34)
set_option maxRecDepth 100000 in
theorem EAllG (a2 : Addr) (a3 : Addr) (a4 : Addr) (a5 : Addr) (w : World) (R : Addr → Addr → World → Prop) : codeT Tryd.prog ⟨FF, MAY, (fun _ _ => False)⟩ pAllG cAllG [(5, .pointer (some a5)), (4, .pointer (some a4)), (3, .pointer (some a3)), (2, .pointer (some a2))] w (rtK R) = SAllG a2 a3 a4 a5 w R := by kernel_rfl
def SAllH (a2 : Addr) (a3 : Addr) (w : World) (R : Slc → (Int × Int) → World → Prop) : Prop :=
  Ld w a2 Slc.v fun (x35 : Slc) =>
  Ld w a3 (Value.int .i64) fun (x36 : Int) =>
  Ld w (a3.add 1) (Value.int .i64) fun (x37 : Int) =>
  R x35 (x36, x37) w
theorem EAllH (a2 : Addr) (a3 : Addr) (w : World) (R : Slc → (Int × Int) → World → Prop) : finT Tryd.prog Tryd.f7 [(.one .slc), (.agg [(.int .i64), (.int .i64)])] (fun s w => R s.1 s.2 w) [(3, .pointer (some a3)), (2, .pointer (some a2))] w = SAllH a2 a3 w R := by kernel_rfl
def C7 (s1 : ByteArray) (w : World) (R : Slc → (Int × Int) → World → Prop) : Prop :=
  Calls Tryd.prog 7 #[.string s1] w fun e w' => ∃ r0 : Slc, ∃ r1 : Int × Int, e = .returned (.tuple #[Slc.v r0, .agg #[.int .i64 (r1.1), .int .i64 (r1.2)]]) ∧ R r0 r1 w'
theorem C7.mono {s1 : ByteArray} {w : World} {R R' : Slc → (Int × Int) → World → Prop} (h : C7 s1 w R) (hr : ∀ r0 r1 w', R r0 r1 w' → R' r0 r1 w') : C7 s1 w R' :=
  Calls.mono h fun _ _ ⟨r0, r1, he, hR⟩ => ⟨r0, r1, he, hr _ _ _ hR⟩
end Go.Proofs.YtpkadliieplblaaDoor
