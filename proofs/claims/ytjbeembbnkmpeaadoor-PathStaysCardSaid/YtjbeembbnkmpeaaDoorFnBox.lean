/- The formulas of the parts of path.Box, written by program (boxfn.py); the kernel checks each. No condition. -/
import Derived.Test.YtjbeembbnkmpeaaDoorFn
import Derived.Test.YtjbeembbnkmpeaaDoorFnPaY
import Derived.Test.YtjbeembbnkmpeaaDoorPaN
import Derived.Test.YtjbeembbnkmpeaaDoorShZ
namespace Go.Proofs.YtjbeembbnkmpeaaDoor
open Sh
set_option linter.unusedVariables false
set_option maxRecDepth 100000
noncomputable def sq1 : Code → Code | .seq a _ => a | c => c
def sq2 : Code → Code | .seq _ b => b | c => c
def bk : Code → Code | .block _ b => b | c => c
def rfa : Code → Code | .rangeFunc _ _ a _ => a | c => c
def rfb : Code → Code | .rangeFunc _ _ _ b => b | c => c
noncomputable def cBoxA : Code := (sq1 (Tryd.f29.body.getD .skip))
def pBoxA : Plan := (.reg .seq)
def SBoxA (l1 : Slc) (w : World) (R : Env → World → Prop) : Prop :=
  Nw w (.cells #[.int .i64 0, .int .i64 0, .int .i64 0, .int .i64 0] 72) fun vw1 =>
  R [(3, .bool false), (2, .pointer (some (⟨w.heap.size, 0, none⟩ : Addr))), (0, Slc.v l1)] vw1
set_option maxRecDepth 100000 in
theorem EBoxA (l1 : Slc) (w : World) (R : Env → World → Prop) : codeY Tryd.prog ⟨FF, MAY, (fun _ _ => False)⟩ pBoxA cBoxA [(0, Slc.v l1)] w (nrm R) = SBoxA l1 w R := by kernel_rfl
noncomputable def cBoxB : Code := (sq1 (sq2 (Tryd.f29.body.getD .skip)))
def pBoxB : Plan := (.reg .seq)
def SBoxB (l1 : Slc) (a2 : Addr) (w : World) (R : Env → World → Prop) : Prop :=
  Nw w (.cells #[.int .i64 0, .int .i64 0, .int .i64 0, .int .i64 0] 72) fun vw2 =>
  R [(4, .pointer (some (⟨w.heap.size, 0, none⟩ : Addr))), (3, .bool false), (2, .pointer (some a2)), (0, Slc.v l1)] vw2
set_option maxRecDepth 100000 in
theorem EBoxB (l1 : Slc) (a2 : Addr) (w : World) (R : Env → World → Prop) : codeY Tryd.prog ⟨FF, MAY, (fun _ _ => False)⟩ pBoxB cBoxB [(3, .bool false), (2, .pointer (some a2)), (0, Slc.v l1)] w (nrm R) = SBoxB l1 a2 w R := by kernel_rfl
noncomputable def cBoxC : Code := (sq1 (sq2 (sq2 (Tryd.f29.body.getD .skip))))
def pBoxC : Plan := (.reg .seq)
def SBoxC (l1 : Slc) (a2 : Addr) (a4 : Addr) (w : World) (R : Env → World → Prop) : Prop :=
  Nw w (.cells #[.bool false] 4) fun vw3 =>
  St vw3 (⟨w.heap.size, 0, none⟩ : Addr) (.bool false) fun vw4 =>
  R [(5, .pointer (some (⟨w.heap.size, 0, none⟩ : Addr))), (4, .pointer (some a4)), (3, .bool false), (2, .pointer (some a2)), (0, Slc.v l1)] vw4
set_option maxRecDepth 100000 in
theorem EBoxC (l1 : Slc) (a2 : Addr) (a4 : Addr) (w : World) (R : Env → World → Prop) : codeY Tryd.prog ⟨FF, MAY, (fun _ _ => False)⟩ pBoxC cBoxC [(4, .pointer (some a4)), (3, .bool false), (2, .pointer (some a2)), (0, Slc.v l1)] w (nrm R) = SBoxC l1 a2 a4 w R := by kernel_rfl
noncomputable def cBoxD : Code := (sq1 (sq1 (sq2 (sq2 (sq2 (Tryd.f29.body.getD .skip))))))
def pBoxD : Plan := (.reg .seq)
def SBoxD (l1 : Slc) (a2 : Addr) (a4 : Addr) (a5 : Addr) (w : World) (R : Env → World → Prop) : Prop :=
  C89 l1 w fun r5 vw6 =>
    R [(8, r5), (7, Slc.v l1), (5, .pointer (some a5)), (4, .pointer (some a4)), (3, .bool false), (2, .pointer (some a2)), (0, Slc.v l1)] vw6
set_option maxRecDepth 100000 in
theorem EBoxD (l1 : Slc) (a2 : Addr) (a4 : Addr) (a5 : Addr) (w : World) (R : Env → World → Prop) : codeY Tryd.prog ⟨FF, MAY, (fun _ _ => False)⟩ pBoxD cBoxD [(5, .pointer (some a5)), (4, .pointer (some a4)), (3, .bool false), (2, .pointer (some a2)), (0, Slc.v l1)] w (nrm R) = SBoxD l1 a2 a4 a5 w R := by kernel_rfl
noncomputable def cBoxE : Code := (rfa (bk (sq2 (sq1 (sq2 (sq2 (sq2 (Tryd.f29.body.getD .skip))))))))
def pBoxE : Plan := (.reg .seq)
def SBoxE (a4 : Addr) (a5 : Addr) (x : Int) (y : Int) (w : World) (R : Env → World → Prop) : Prop :=
  Nw w (.cells #[.int .i64 0, .int .i64 0] 43) fun vw7 =>
  St vw7 (⟨w.heap.size, 0, none⟩ : Addr) (.int .i64 x) fun vw8 =>
  St vw8 ((⟨w.heap.size, 0, none⟩ : Addr).add 1) (.int .i64 y) fun vw9 =>
  R [(6, .pointer (some (⟨w.heap.size, 0, none⟩ : Addr))), (9, .agg #[.int .i64 x, .int .i64 y]), (5, .pointer (some a5)), (4, .pointer (some a4))] vw9
set_option maxRecDepth 100000 in
theorem EBoxE (a4 : Addr) (a5 : Addr) (x : Int) (y : Int) (w : World) (R : Env → World → Prop) : codeY Tryd.prog ⟨FF, MAY, (fun _ _ => False)⟩ pBoxE cBoxE [(9, .agg #[.int .i64 x, .int .i64 y]), (5, .pointer (some a5)), (4, .pointer (some a4))] w (nrm R) = SBoxE a4 a5 x y w R := by kernel_rfl
noncomputable def cBoxF : Code := (rfb (bk (sq2 (sq1 (sq2 (sq2 (sq2 (Tryd.f29.body.getD .skip))))))))
def pBoxF : Plan := (.block (.seq (.seq (.reg .seq) (.cond (.reg .seq) .leaf)) (.seq (.reg .seq) (.reg .seq))))
def SBoxF (a4 : Addr) (a5 : Addr) (a6 : Addr) (x : Int) (y : Int) (w : World) (R : World → Prop) : Prop :=
  Ld w a5 Value.bool fun (x19 : Bool) =>
  Br (!x19) (Ld w a6 (Value.int .i64) fun (x20 : Int) =>
    Ld w (a6.add 1) (Value.int .i64) fun (x21 : Int) =>
    Ld w a6 (Value.int .i64) fun (x22 : Int) =>
    Ld w (a6.add 1) (Value.int .i64) fun (x23 : Int) =>
    St w a4 (.int .i64 x20) fun vw24 =>
    St vw24 (a4.add 1) (.int .i64 x21) fun vw25 =>
    St vw25 (a4.add 2) (.int .i64 x22) fun vw26 =>
    St vw26 (a4.add 3) (.int .i64 x23) fun vw27 =>
    St vw27 a5 (.bool true) fun vw28 =>
    Ld vw28 a4 (Value.int .i64) fun (x29 : Int) =>
    Ld vw28 a6 (Value.int .i64) fun (x30 : Int) =>
    Ld vw28 (a4.add 1) (Value.int .i64) fun (x31 : Int) =>
    Ld vw28 (a6.add 1) (Value.int .i64) fun (x32 : Int) =>
    Ld vw28 (a4.add 2) (Value.int .i64) fun (x33 : Int) =>
    Ld vw28 a6 (Value.int .i64) fun (x34 : Int) =>
    Ld vw28 (a4.add 3) (Value.int .i64) fun (x35 : Int) =>
    Ld vw28 (a6.add 1) (Value.int .i64) fun (x36 : Int) =>
    St vw28 a4 (.int .i64 (if x30 < x29 then x30 else x29)) fun vw37 =>
    St vw37 (a4.add 1) (.int .i64 (if x32 < x31 then x32 else x31)) fun vw38 =>
    St vw38 (a4.add 2) (.int .i64 (if x34 > x33 then x34 else x33)) fun vw39 =>
    St vw39 (a4.add 3) (.int .i64 (if x36 > x35 then x36 else x35)) fun vw40 =>
    R vw40) (St w a5 (.bool true) fun vw41 =>
    Ld vw41 a4 (Value.int .i64) fun (x42 : Int) =>
    Ld vw41 a6 (Value.int .i64) fun (x43 : Int) =>
    Ld vw41 (a4.add 1) (Value.int .i64) fun (x44 : Int) =>
    Ld vw41 (a6.add 1) (Value.int .i64) fun (x45 : Int) =>
    Ld vw41 (a4.add 2) (Value.int .i64) fun (x46 : Int) =>
    Ld vw41 a6 (Value.int .i64) fun (x47 : Int) =>
    Ld vw41 (a4.add 3) (Value.int .i64) fun (x48 : Int) =>
    Ld vw41 (a6.add 1) (Value.int .i64) fun (x49 : Int) =>
    St vw41 a4 (.int .i64 (if x43 < x42 then x43 else x42)) fun vw50 =>
    St vw50 (a4.add 1) (.int .i64 (if x45 < x44 then x45 else x44)) fun vw51 =>
    St vw51 (a4.add 2) (.int .i64 (if x47 > x46 then x47 else x46)) fun vw52 =>
    St vw52 (a4.add 3) (.int .i64 (if x49 > x48 then x49 else x48)) fun vw53 =>
    R vw53)
set_option maxRecDepth 100000 in
theorem EBoxF (a4 : Addr) (a5 : Addr) (a6 : Addr) (x : Int) (y : Int) (w : World) (R : World → Prop) : codeY Tryd.prog ⟨FF, MAY, (fun _ _ => False)⟩ pBoxF cBoxF [(6, .pointer (some a6)), (9, .agg #[.int .i64 x, .int .i64 y]), (5, .pointer (some a5)), (4, .pointer (some a4))] w (nrm fun _ => R) = SBoxF a4 a5 a6 x y w R := by kernel_rfl
/-- The results' slots, at the end. -/
def rtK (R : Addr → Bool → World → Prop) : Exit → Env → World → Prop := fun e E w => match e with
  | .ret => (match E.get? 2, E.get? 3 with
    | some (.pointer (some a)), some (.bool b) => R a b w
    | _, _ => False)
  | _ => False
noncomputable def cBoxG : Code := (sq2 (sq2 (sq2 (sq2 (Tryd.f29.body.getD .skip)))))
def pBoxG : Plan := (.seq (.reg (.held [] (.take 0 (.take 1 (.eff 2 none (.take 3 .done)))))) .leaf)
def SBoxG (a2 : Addr) (a4 : Addr) (a5 : Addr) (w : World) (R : Addr → Bool → World → Prop) : Prop :=
  ∃ vS54 : World → Prop, vS54 w.drew ∧ LdS vS54 a4 (Value.int .i64) fun (x55 : Int) =>
  LdS vS54 (a4.add 1) (Value.int .i64) fun (x56 : Int) =>
  LdS vS54 (a4.add 2) (Value.int .i64) fun (x57 : Int) =>
  LdS vS54 (a4.add 3) (Value.int .i64) fun (x58 : Int) =>
  LdS vS54 a5 Value.bool fun (x59 : Bool) =>
  St w.drew a2 (.int .i64 x55) fun vw60 =>
  St vw60 (a2.add 1) (.int .i64 x56) fun vw61 =>
  St vw61 (a2.add 2) (.int .i64 x57) fun vw62 =>
  St vw62 (a2.add 3) (.int .i64 x58) fun vw63 =>
  vS54 vw63 ∧ R a2 x59 vw63
set_option maxRecDepth 100000 in
theorem EBoxG (a2 : Addr) (a4 : Addr) (a5 : Addr) (w : World) (R : Addr → Bool → World → Prop) : codeT Tryd.prog ⟨FF, MAY, (fun _ _ => False)⟩ pBoxG cBoxG [(5, .pointer (some a5)), (4, .pointer (some a4)), (2, .pointer (some a2))] w (rtK R) = SBoxG a2 a4 a5 w R := by kernel_rfl
def SBoxH (a2 : Addr) (b3 : Bool) (w : World) (R : (Int × Int × Int × Int) → Bool → World → Prop) : Prop :=
  Ld w a2 (Value.int .i64) fun (x64 : Int) =>
  Ld w (a2.add 1) (Value.int .i64) fun (x65 : Int) =>
  Ld w (a2.add 2) (Value.int .i64) fun (x66 : Int) =>
  Ld w (a2.add 3) (Value.int .i64) fun (x67 : Int) =>
  R (x64, x65, x66, x67) b3 w
theorem EBoxH (a2 : Addr) (b3 : Bool) (w : World) (R : (Int × Int × Int × Int) → Bool → World → Prop) : finT Tryd.prog Tryd.f29 [(.agg [(.int .i64), (.int .i64), (.int .i64), (.int .i64)]), (.one .bool)] (fun s w => R s.1 s.2 w) [(3, .bool b3), (2, .pointer (some a2))] w = SBoxH a2 b3 w R := by kernel_rfl
end Go.Proofs.YtjbeembbnkmpeaaDoor
