/- A range over a function: the statement, a round, the way out of the function. Conditions: the iterator has a body. -/
import Derived.Test.YtpkadliieplblaaDoorShY
import Derived.Test.YtpkadliieplblaaDoorShD
namespace Go.Proofs.YtpkadliieplblaaDoor
namespace Sh
open Go.RowKit
set_option linter.unusedVariables false
section
variable {P : Program} {F : Fx} {N : Nat} {G : Fence}
/-- The record of a loop, ready for a round. -/
def rfRec (fn : FuncId) (tmps : Array Value) (ps : Array Tmp) (asg body : Code) (D : Nat) : Loop := { state := .ready, pending := none, fn, tmps, params := ps, assign := asg, body, defers := D }
/-- The world in which the iterator starts. -/
def rfW (w : World) (fn : FuncId) (tmps : Array Value) (ps : Array Tmp) (asg body : Code) : World := (w.alloc (.deferred (some []))).alloc (.loop (rfRec fn tmps ps asg body w.heap.size))
def rfTmps (ps : Array Tmp) (args tmps : Array Value) : Array Value := (ps.zip args).foldl (fun tmps (t, a) => tmps.setIfInBounds t a) tmps
theorem rf_in {ok : Nat → Bool} (hF : CallsOk P ok) {g : Operand} {ps : Array Tmp} {asg body : Code} {Q : Exit → Act → World → Prop} {a : Act} {w : World} {gf : Nat} {caps : Array Value} (hg : a.eval g = .func (.func gf) #[] caps) (hent : enterB P ok gf = true)
    (h : ∀ fn : FuncId, CallsIn Fence.wide 0 P gf (#[.func (.yield (w.heap.size + 1)) #[] #[]] ++ caps) (rfW w fn a.tmps ps asg body) fun e W2 =>
      (∃ v, e = .returned v) ∧ W2.heap[w.heap.size + 1]? = some (.loop (rfRec fn a.tmps ps asg body w.heap.size)) ∧
      Q .normal { a with defers := { target := .collected w.heap.size, args := #[] } :: a.defers } (W2.putObj (w.heap.size + 1) (.loop { rfRec fn a.tmps ps asg body w.heap.size with state := .exhausted }))) :
    (Code.rangeFunc g ps asg body).wpIn Fence.wide 0 P Q a w := by
  refine wpIn_rangeFunc fun fn _ => ?_
  refine ⟨w.heap.size + 1, [{ target := .collected w.heap.size, args := #[] }], rfW w fn a.tmps ps asg body, { target := .fn (.func gf) caps, args := #[.func (.yield (w.heap.size + 1)) #[] #[]] }, rfW w fn a.tmps ps asg body, gf,
    #[.func (.yield (w.heap.size + 1)) #[] #[]] ++ caps, rfW w fn a.tmps ps asg body, ?_, ?_, ?_, ?_, fun h => by simp [Fence.wide] at h, ?_⟩
  · exact run_enterLoop_outer _ _ _ _ _
  · simp only [resolve, hg]
    simp [go_sem]
  · intro f' _
    trivial
  · simp [invoke, go_sem, callFunc_enter hF hent]
  · refine (h fn).mono ?_
    rintro e W2 ⟨⟨v, rfl⟩, hl, hQ⟩
    exact ⟨none, _, run_endLoop hl (by simp [rfRec]), hQ⟩
/-- Code that ends by going on. -/
def nrm (R : Env → World → Prop) : Exit → Env → World → Prop
  | .normal, E, w => R E w
  | _, _, _ => False
/-- The way out of a function. -/
def finX (P : Program) (fn : Func) (tys : List Ty) (R : Sg tys → World → Prop) : Exit → Env → World → Prop := fun e E w => match e with
  | .normal => resT P fn.results.toList E w fun vs => match Sg.get? tys vs with
    | some s => R s w
    | none => False
  | .ret => resT P fn.results.toList E w fun vs => match Sg.get? tys vs with
    | some s => R s w
    | none => False
  | _ => False
theorem nrm_elim {R : Env → World → Prop} {e : Exit} {E : Env} {w : World} (h : nrm R e E w) : e = .normal ∧ R E w := by
  cases e <;> first | exact ⟨rfl, h⟩ | exact h.elim
theorem yl_body (hF : CallsOk P F.ok) (hpk : ∀ v w, ¬ F.pk v w) {W : World} {l : Nat} {fn : FuncId} {tmps : Array Value} {ps : Array Tmp} {asg body : Code} {D : Nat} {args : Array Value} {K : Bool → World → Prop}
    (hl : W.heap[l]? = some (.loop (rfRec fn tmps ps asg body D))) (hs : args.size = ps.size) {E : Env} (hf : Fits N E { tmps := rfTmps ps args tmps, defers := [] })
    {pa pb : Plan} (hsa : slotsOk N asg = true) (hsb : slotsOk N body = true)
    (h : codeY P F pa asg E W <| nrm fun E1 W1 => W1.heap[l]? = some (.loop (rfRec fn tmps ps asg body D)) ∧
      codeY P F pb body E1 (W1.putObj l (.loop { rfRec fn tmps ps asg body D with state := .busy })) (nrm fun E2 W2 => W2.heap[l]? = some (.loop { rfRec fn tmps ps asg body D with state := .busy }) ∧
        K true (W2.putObj l (.loop (rfRec fn tmps ps asg body D))))) : Yl P l args W K := by
  have hy := run_yield (P := P) (args := args) hl (by simpa [rfRec] using hs)
  refine ⟨fn, rfTmps ps args tmps, asg, body, hy, roundIn_of_wpIn trivial ?_⟩
  refine wpIn_mono (codeY_in (InF.inRound l) hF asg pa E W _ _ h hf hsa) fun e a1 W1 hq => ?_
  rcases hq with ⟨E1, hq, hf1, hs1⟩ | ⟨v, _, hp, _⟩
  · obtain ⟨rfl, hl1, h1⟩ := nrm_elim hq
    refine ⟨_, run_beginRound hl1 rfl, ?_⟩
    refine wpIn_mono (codeY_in (InF.inRound l) hF body pb E1 _ _ _ h1 hf1 hsb) fun e a2 W2 hq => ?_
    rcases hq with ⟨E2, hq, _, _⟩ | ⟨v, _, hp, _⟩
    · obtain ⟨rfl, hl2, h2⟩ := nrm_elim hq
      exact ⟨_, _, run_endRound none hl2, true, rfl, h2⟩
    · exact (hpk _ _ hp).elim
  · exact (hpk _ _ hp).elim
theorem seqY (hG : InF G) (hF : CallsOk P F.ok) (hpk : ∀ v w, ¬ F.pk v w) {c d : Code} {pl : Plan} {E : Env} {w : World} {K : Env → World → Prop} {a : Act} {Q : Exit → Act → World → Prop} (h : codeY P F pl c E w (nrm K)) (hf : Fits N E a) (hs : slotsOk N c = true)
    (hn : ∀ E' a' w', K E' w' → Fits N E' a' → a'.defers = a.defers → d.wpIn G 0 P Q a' w') : (Code.seq c d).wpIn G 0 P Q a w := by
  refine wpIn_seq (wpIn_mono (codeY_in hG hF c pl E w _ a h hf hs) fun e a' w' hq => ?_)
  rcases hq with ⟨E', h1, h2, h3⟩ | ⟨v, _, hp, _⟩
  · obtain ⟨rfl, h4⟩ := nrm_elim h1
    exact hn E' a' w' h4 h2 h3.2
  · exact (hpk _ _ hp).elim
end
end Sh
end Go.Proofs.YtpkadliieplblaaDoor
