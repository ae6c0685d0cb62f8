/- The closure that compares two coins by their weights (it calls a function that it loads). Condition: the loaded function is the one known. -/
import Derived.Test.YtapgacggllbhiaaFnCmp
namespace Go.Proofs.Ytapgacggllbhiaa
open Sh
set_option linter.unusedVariables false
set_option maxRecDepth 100000
def wfn : Value := .func (.func 44) #[] #[]
def C49 (x : Option Addr) (y : Option Addr) (c : Addr) (w : World) (R : Int → World → Prop) : Prop :=
  Calls Try.prog 49 #[.pointer x, .pointer y, .pointer (some c)] w fun e w' => ∃ r0 : Int, e = .returned (.int .i64 r0) ∧ R r0 w'
theorem C49.mono {x : Option Addr} {y : Option Addr} {c : Addr} {w : World} {R R' : Int → World → Prop} (h : C49 x y c w R) (hr : ∀ r0 w', R r0 w' → R' r0 w') : C49 x y c w R' :=
  Calls.mono h fun _ _ ⟨r0, he, hR⟩ => ⟨r0, he, hr _ _ hR⟩
/-- A load whose value is known. -/
theorem take_load {P : Program} {F : Fx} {ops : Array Oper} {i : Nat} {r : Od} {J : List Nat} {S : World → Prop} {listed : Array Bool} {E : Env} {w : World} {K : Env → World → Prop} {o : Oper} {t : TypeId} {x : Operand} {a : Addr} {v : Value} {d : TypeDesc} {n : Nat}
    (ho : ops[i]? = some o) (hop : o.op = .load t x) (hg : o.guard = none) (hc : ((Region.free .any ops listed i && (Region.ready .any ops listed).contains i) && (!isLoad o.op || J.all fun j => anc ops j i)) = true) (hh : (hasAll E o.op && stillOp P o.op) = true)
    (hx : E.rho x = .pointer (some a)) (hd : P.underlying t = some d) (hn : szOf P t = some n) (ha : isAggD (some d) = false) (hraw : tyD d = .raw) (hS : ∀ w, S w → w.cell? a = some v)
    (k : heldT P F ops r [] J S (listed.setIfInBounds i true) (E.put o.dst v) w K) : heldT P F ops (.take i r) [] J S listed E w K := by
  unfold heldT
  rw [ho]
  have hc' : (([] : List Nat).isEmpty && (Region.free .any ops listed i && (Region.ready .any ops listed).contains i) && (!isLoad o.op || J.all fun j => anc ops j i)) = true := by
    rw [List.isEmpty_nil, Bool.true_and]; exact hc
  dsimp only
  rw [hc']
  dsimp only
  unfold gdT
  rw [hg]
  dsimp only
  rw [hh]
  dsimp only
  unfold opQ
  rw [hop]
  dsimp only
  unfold ldQ
  rw [hx]
  dsimp only
  rw [hd, hn]
  dsimp only
  rw [ha]
  dsimp only
  rw [hraw]
  exact ⟨v, hS, k⟩
def opsB : Option Code → Array Oper
  | some (.seq _ (.seq (.region _ ops _) _)) => ops
  | _ => #[]
def od49 : Od := .take 0 (.take 3 (.take 1 (.take 4 (.eff 2 none (.eff 5 none (.eff 6 (some []) (.take 7 .done)))))))
def pl49 : Plan := .seq (.reg .seq) (.seq (.reg (.held [6] od49)) .leaf)
theorem phT_of {S : World → Prop} {w : World} {k : (World → Prop) → Prop} (h : S w) (hk : k S) : phT true w k := ⟨S, h, hk⟩
theorem T49 (x y : Option Addr) (c : Addr) (w : World) (R : Int → World → Prop) (hc : w.cell? c = some wfn)
    (h : C44 x w.drew fun r8 w1 => w1.cell? c = some wfn ∧ C44 y w1 fun r11 w2 => w2.cell? c = some wfn ∧ C50 r8 r11 w2 fun r w3 => R r w3) : C49 x y c w R := by
  have e : fnT Try.prog ⟨FF, MAY, (fun _ _ => False)⟩ pl49 Try.f49 [.pointer x, .pointer y, .pointer (some c)] w [(.one (.int .i64))] (fun s w => R s w) = phT true w.drew fun S => heldT Try.prog ⟨FF, MAY, (fun _ _ => False)⟩ (opsB Try.f49.body) od49 [] [6] S (Array.replicate 8 false) [(5, .int .i64 0), (0, .pointer x), (1, .pointer y), (2, .pointer (some c))] w.drew fun E w => codeT Try.prog ⟨FF, MAY, (fun _ _ => False)⟩ .leaf .ret E w fun e E w => match e with
      | .ret => resT Try.prog Try.f49.results.toList E w fun vs => match Sg.get? [(.one (.int .i64))] vs with
        | some s => R s w
        | none => False
      | .normal => resT Try.prog Try.f49.results.toList E w fun vs => match Sg.get? [(.one (.int .i64))] vs with
        | some s => R s w
        | none => False
      | _ => False := by kernel_rfl
  refine (fn_calls okF okM Try.func49 (by kernel_rfl) (by kernel_rfl) (e.mpr (phT_of (S := fun w' => w'.cell? c = some wfn) hc ?_))).mono fun _ _ ⟨s, he, hR⟩ => ⟨s, he, hR⟩
  refine take_load (i := 0) (d := (Try.prog.underlying 82).get!) (n := 1) (t := 82) (x := .tmp 2) (o := (opsB Try.f49.body)[0]!) (by kernel_rfl) (by kernel_rfl) (by kernel_rfl) (by kernel_rfl) (by kernel_rfl) (a := c) (by kernel_rfl) (by kernel_rfl) (by kernel_rfl) (by kernel_rfl) (by kernel_rfl) (fun _ h => h) ?_
  refine take_load (i := 3) (d := (Try.prog.underlying 82).get!) (n := 1) (t := 82) (x := .tmp 2) (o := (opsB Try.f49.body)[3]!) (by kernel_rfl) (by kernel_rfl) (by kernel_rfl) (by kernel_rfl) (by kernel_rfl) (a := c) (by kernel_rfl) (by kernel_rfl) (by kernel_rfl) (by kernel_rfl) (by kernel_rfl) (fun _ h => h) ?_
  refine Eq.mpr ?_ h
  kernel_rfl
end Go.Proofs.Ytapgacggllbhiaa
