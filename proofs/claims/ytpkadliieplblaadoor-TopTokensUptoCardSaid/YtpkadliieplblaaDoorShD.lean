/- Functions that defer a call, and deferred calls that recover: their formulas imply what a call does. Conditions: as for functions without. -/
import Derived.Test.YtpkadliieplblaaDoorShR
namespace Go.Proofs.YtpkadliieplblaaDoor
namespace Sh
set_option linter.unusedVariables false
section
variable {P : Program} {N : Nat} {ok may : Nat → Bool}

theorem callFunc_enter (hF : CallsOk P ok) {g : Nat} (hg : enterB P ok g = true) (args : Array Value) (w : World) : (callFunc g args).run P w = .ok (.enter g args) w := by
  unfold enterB at hg
  split at hg
  · rename_i fn hok hfn
    obtain ⟨hb, hn⟩ := hF g fn hok hfn
    have hb' : fn.body.isNone = false := by cases hx : fn.body <;> simp_all
    have hn' : (fn.name == "runtime.NumGoroutine") = false := by simpa using hn
    simp only [callFunc, Sem.run_bind, run_program, Result.andThen_ok, hfn, hn', hb', Bool.false_eq_true, if_false, Sem.run_pure]
  · cases hg
/-- Operations, and then others. -/
theorem opsT_app {F : Fx} (hF : CallsOk P F.ok) {ops : Array Oper} {Q : Exit → Act → World → Prop} {m : List Oper} : ∀ (l : List Oper) (E : Env) (w : World) (K : Env → World → Prop) (a : Act),
    opsT P F false ops l E w K → Fits N E a → dstOk N l → (∀ E' a' w', K E' w' → Fits N E' a' → frame l a a' → wpList P ops Q m a' w') →
    (∀ v a' w', F.pk v w' → Fits N [] a' → frame l a a' → Q (.panic (onePanic v)) a' w') → wpList P ops Q (l ++ m) a w
  | [], E, w, K, a, h, hf, _, hQ, _ => hQ E a w h hf (frame.refl _ _)
  | o :: r, E, w, K, a, h, hf, hd, hQ, hP => by
    have hd' : dstOk N r := fun p hp => hd p (List.mem_cons_of_mem _ hp)
    have ho := hd o List.mem_cons_self
    rw [List.cons_append]
    unfold wpList
    rcases gdT_elim h hf with ⟨hw, E', hf', hy⟩ | ⟨hw, E', hf', hn⟩
    · rw [if_pos hw]
      refine .inl ?_
      split at hy
      · rename_i hb
        simp only [Bool.and_eq_true] at hb
        unfold Oper.wp
        rw [hasAll_exec hf' hb.1]
        refine out_upon (opV_out hF hy) (fun v w' hk => ?_) fun v w' hp => hP v a w' hp hf.some (frame.refl _ _)
        exact opsT_app hF r _ w' K _ hk (hf'.put ho) hd' (fun E'' a' w'' h1 h2 h3 => hQ _ _ _ h1 h2 (frame_cons h3)) fun v a' w'' h1 h2 h3 => hP v a' w'' h1 h2 (frame_cons h3)
      · exact hy.elim
    · rw [if_neg (by rw [hw]; simp)]
      exact opsT_app hF r _ w K _ hn (hf'.put ho) hd' (fun E'' a' w'' h1 h2 h3 => hQ _ _ _ h1 h2 (frame_cons h3)) fun v a' w'' h1 h2 h3 => hP v a' w'' h1 h2 (frame_cons h3)

theorem resolve_fn {E : Env} {a : Act} (hf : Fits N E a) {c : Call} {f : Operand} {g : Nat} {first captured : Array Value} {t : TypeId} (hc : calleeV c.callee = some f) (hv : funcV (E.rho f) = some (g, first, captured))
    (hh : (E.has f && c.args.toList.all E.has) = true) : (resolve a.eval c t : Sem Deferred) = pure { target := .fn (.func g) captured, args := first ++ c.args.map E.rho } := by
  simp only [Bool.and_eq_true] at hh
  have h1 : a.eval f = .func (.func g) first captured := by
    rw [hf.rho hh.1]
    unfold funcV at hv
    split at hv
    · rename_i g' fi ca e
      cases hv
      exact e
    · cases hv
  have h2 : c.args.map a.eval = c.args.map E.rho := by
    apply Array.ext'
    rw [Array.toList_map, Array.toList_map]
    refine List.map_congr_left fun x hx => hf.rho (List.all_eq_true.1 hh.2 x hx)
  have h3 : c.callee = .value f := by
    unfold calleeV at hc
    split at hc
    · rename_i f' e
      cases hc
      exact e
    · cases hc
  unfold resolve
  simp only [h3, h1, h2, Deferred.ofValue]

theorem keepOk_of {keep : List Nat} {c : Code} {b : Bool} (h : (keepOk keep c && b) = true) : keepOk keep c = true ∧ b = true := by simpa [Bool.and_eq_true] using h

def RR {tys : List Ty} (R : Sg tys → World → Prop) (PR : Value → World → Prop) (e : Ending) (w' : World) : Prop :=
  (∃ s : Sg tys, e = .returned (callV.retV (Sg.vals tys s)) ∧ R s w') ∨ ∃ v, e = .panicked (onePanic v) ∧ PR v w'

/-- The code of a function that defers. -/
theorem defT_wp (hF : CallsOk P ok) (hm : P.follows .mixedOrders = true) {PR : Value → World → Prop} {fn : Func} {tys : List Ty} {R : Sg tys → World → Prop} : ∀ (c : Code) (pl : DPlan) (E : Env) (w : World) (a : Act),
    defT P ok may PR fn tys R pl c E w → Fits fn.ntmps E a → a.defers = [] → slotsOk fn.ntmps c = true → c.wp P (bodyPostD P fn (RR R PR)) a w := by
  intro c
  induction c with
  | seq c d ihc ihd =>
    clear ihc
    intro pl E w a h hf hnd hs
    simp only [slotsOk, Bool.and_eq_true] at hs
    cases pl with
    | pre p r =>
      refine wp_seq (wp_mono (codeT_wp (F := ⟨ok, may, PR⟩) hF hm c p E w _ a h hf hs.1) fun e a' w' hq => ?_)
      rcases hq with ⟨E', h1, h2, h3⟩ | ⟨v, rfl, h1, h2, h3⟩
      · have hnd' : a'.defers = [] := by rw [h3.2]; exact hnd
        cases e <;> try exact h1.elim
        · exact ihd r E' w' a' h1 h2 hnd' hs.2
        · show Leaves P fn a'.tmps _ a'.defers .returning w'
          rw [hnd']
          obtain ⟨v, g1, g2⟩ := fin_run h2 h1
          exact ⟨v, g1, .inl g2⟩
      · have hnd' : a'.defers = [] := by rw [h3.2]; exact hnd
        show Leaves P fn a'.tmps _ a'.defers (.panicking (onePanic v)) w'
        rw [hnd']
        exact .inr ⟨v, rfl, h1⟩
    | here keep p =>
      cases c <;> try exact (show False from h).elim
      rename_i id ops dr
      cases dr with
      | true => exact (show False from h).elim
      | false =>
      have hd := slotsOk_dst hs.1
      replace h : opsT P ⟨ok, may, PR⟩ false ops ops.toList.dropLast E w fun E w => match ops.toList.getLast? with
        | some o => defOp E o fun g args => match keepOk keep d && enterB P ok g with
          | true => codeT P ⟨ok, may, fun v w => CallD P g args (some v) w fun w' => finT P fn tys R (Env.keep E keep) w'⟩ p d E w fun e E w => match e with
            | .normal => CallD P g args none w fun w' => finT P fn tys R E w'
            | .ret => CallD P g args none w fun w' => finT P fn tys R E w'
            | _ => False
          | false => False
        | none => False := h
      refine wp_seq (wp_region_list ?_)
      have hsub : ∀ o ∈ ops.toList.dropLast, o ∈ ops.toList := fun o ho => (List.dropLast_sublist _).subset ho
      cases hl : ops.toList.getLast? with
      | none =>
        rw [hl] at h
        have hnil : ops.toList = [] := List.getLast?_eq_none_iff.1 hl
        rw [hnil] at h
        exact (show False from h).elim
      | some o =>
      rw [hl] at h
      have hap : ops.toList = ops.toList.dropLast ++ [o] := by
        have hne : ops.toList ≠ [] := fun e => by rw [e] at hl; cases hl
        have h1 := List.dropLast_concat_getLast hne
        rw [List.getLast?_eq_some_getLast hne] at hl
        cases hl
        exact h1.symm
      rw [hap]
      have hom : o ∈ ops.toList := by rw [hap]; simp
      refine opsT_app (N := fn.ntmps) (F := ⟨ok, may, PR⟩) hF _ _ _ _ _ h hf (fun x hx => hd x (hsub x hx)) (fun E' a' w' h1 h2 h3 => ?_) fun v a' w' h1 h2 h3 => ?_
      · dsimp only at h1
        unfold defOp at h1
        split at h1
        · rename_i cc hdc hgd hdst
          split at h1
          · rename_i f hcf
            split at h1
            · rename_i g first captured hfv hh
              split at h1
              · rename_i hk0
                obtain ⟨hk, hg⟩ := keepOk_of hk0
                have hop : o.op = .defer cc := by
                  unfold deferC at hdc
                  split at hdc
                  · rename_i c' e; cases hdc; exact e
                  · cases hdc
                unfold wpList
                rw [if_pos (by simp [Region.wanted, hgd])]
                refine .inl ?_
                have hrun : (execOp a'.eval o).run P w' = .ok (.defer { target := .fn (.func g) captured, args := first ++ cc.args.map E'.rho }) w' := by
                  unfold execOp
                  simp only [hop, resolve_fn h2 hcf hfv hh, pure_bind, Sem.run_pure]
                unfold Oper.wp
                rw [hrun, Oper.upon_defer]
                have hnd' : a'.defers = [] := by rw [h3.2]; exact hnd
                rw [hdst]
                have hf3 : Fits fn.ntmps E' ({ a' with defers := { target := .fn (.func g) captured, args := first ++ cc.args.map E'.rho } :: a'.defers }.put none undef) := ⟨h2.size, h2.get⟩
                unfold wpList
                refine wp_mono (codeT_wp (F := ⟨ok, may, fun v w => CallD P g _ (some v) w fun w' => finT P fn tys R (Env.keep E' keep) w'⟩) hF hm d p _ w' _ _ h1 hf3 hs.2) fun e a'' w'' hq => ?_
                have hinv : (invoke (.fn (.func g) captured) (first ++ cc.args.map E'.rho)).run P w'' = .ok (.enter g ((first ++ cc.args.map E'.rho) ++ captured)) w'' := callFunc_enter hF hg _ _
                rcases hq with ⟨E'', g1, g2, g3⟩ | ⟨v, rfl, g1, g2, g3⟩
                · have hds : a''.defers = [{ target := .fn (.func g) captured, args := first ++ cc.args.map E'.rho }] := by rw [g3.2, put_defers]; simp only [hnd']
                  have key : (CallD P g ((first ++ cc.args.map E'.rho) ++ captured) none w'' fun w' => finT P fn tys R E'' w') → Leaves P fn a''.tmps (RR R PR) a''.defers .returning w'' := fun h => by
                    rw [hds]
                    refine leaves_cons (by simp) hinv (CallsD.mono h fun e u' w3 hr => ?_)
                    obtain ⟨rfl, rfl, hr⟩ := hr
                    obtain ⟨v, k1, k2⟩ := fin_run g2 hr
                    exact ⟨v, k1, .inl k2⟩
                  cases e <;> try exact g1.elim
                  · exact key g1
                  · exact key g1
                · have hds : a''.defers = [{ target := .fn (.func g) captured, args := first ++ cc.args.map E'.rho }] := by rw [g3.2, put_defers]; simp only [hnd']
                  show Leaves P fn a''.tmps (RR R PR) a''.defers (.panicking (onePanic v)) w''
                  rw [hds]
                  refine leaves_cons (by simp) hinv (CallsD.mono g1 fun e u' w3 hr => ?_)
                  obtain ⟨rfl, rfl, hr⟩ := hr
                  have hfit : Fits fn.ntmps (Env.keep E' keep) a'' := by
                    refine Held.fits (keep_held h2 keep fun t ht => ?_) g2.size
                    rw [g3.1 t (keepOk_wr hk t ht)]
                    rfl
                  obtain ⟨v, k1, k2⟩ := fin_run hfit hr
                  exact ⟨v, k1, .inl k2⟩
              · exact h1.elim
            · exact h1.elim
          · exact h1.elim
        · exact h1.elim
      · have hnd' : a'.defers = [] := by rw [h3.2]; exact hnd
        show Leaves P fn a'.tmps _ a'.defers (.panicking (onePanic v)) w'
        rw [hnd']
        exact .inr ⟨v, rfl, h1⟩
  | _ =>
    intro pl E w a h hf hnd hs
    cases pl <;> exact (show False from h).elim
/-- **The formula of a function that defers implies what a call of it does.** -/
theorem fnD_callsP {PR : Value → World → Prop} (hF : CallsOk P ok) (hm : P.follows .mixedOrders = true) {f : FuncId} {fn : Func} {pl : DPlan} {args : List Value} {w : World} {tys : List Ty} {R : Sg tys → World → Prop}
    (hf : P.funcs[f]? = some fn) (hN : (match fn.body with
      | some c => slotsOk fn.ntmps c
      | none => false) = true) (ha : Nat.ble args.length fn.ntmps = true)
    (h : fnTD P ok may PR pl fn args w tys R) : Calls P f args.toArray w fun e w' => (∃ s : Sg tys, e = .returned (callV.retV (Sg.vals tys s)) ∧ R s w') ∨ ∃ v, e = .panicked (onePanic v) ∧ PR v w' := by
  unfold fnTD at h
  split at h
  · exact h.elim
  · rename_i c hc
    rw [hc] at hN
    exact calls_of_wp_defers hf hc (defT_wp hF hm c pl _ w _ h (fits0 (Nat.le_of_ble_eq_true ha)) rfl hN)
theorem fnD_calls (hF : CallsOk P ok) (hm : P.follows .mixedOrders = true) {f : FuncId} {fn : Func} {pl : DPlan} {args : List Value} {w : World} {tys : List Ty} {R : Sg tys → World → Prop}
    (hf : P.funcs[f]? = some fn) (hN : (match fn.body with
      | some c => slotsOk fn.ntmps c
      | none => false) = true) (ha : Nat.ble args.length fn.ntmps = true)
    (h : fnTD P ok may (fun _ _ => False) pl fn args w tys R) : Calls P f args.toArray w fun e w' => ∃ s : Sg tys, e = .returned (callV.retV (Sg.vals tys s)) ∧ R s w' :=
  (fnD_callsP hF hm hf hN ha h).mono fun e w' he => he.elim id fun ⟨_, _, h⟩ => h.elim

theorem outP_upon_S {o : Oper} {a : Act} {next : Act → World → Prop} {Q : Exit → Act → World → Prop} {K : Value → World → Prop} {r : Result Next} (h : OutP P (fun _ _ => False) K r)
    (hk : ∀ v w', K v w' → next (a.put o.dst v) w') : o.upon P a next Q r := out_upon h hk fun _ _ h => h.elim
/-- Operations in a deferred call, after recover. -/
theorem opsT_S (hF : CallsOk P ok) {ops : Array Oper} {Q : Exit → Act → List Frame → World → Prop} {cs : List Frame} : ∀ (l : List Oper) (k : Nat) (E : Env) (w : World) (K : Env → World → Prop) (a : Act),
    (∀ j, l[j]? = ops[k + j]?) → opsT P ⟨ok, may, fun _ _ => False⟩ false ops l E w K → Fits N E a → dstOk N l → (∀ E' a' w', K E' w' → Fits N E' a' → frame l a a' → Q .normal a' cs w') →
    wpOpsS P ops Q (List.range' k l.length) a cs w
  | [], k, E, w, K, a, _, h, hf, _, hQ => hQ E a w h hf (frame.refl _ _)
  | o :: r, k, E, w, K, a, hl, h, hf, hd, hQ => by
    have hd' : dstOk N r := fun p hp => hd p (List.mem_cons_of_mem _ hp)
    have ho := hd o List.mem_cons_self
    have h0 : ops[k]? = some o := by simpa using (hl 0).symm
    have hl' : ∀ j, r[j]? = ops[k + 1 + j]? := fun j => by have := hl (j + 1); simpa [Nat.add_assoc, Nat.add_comm 1 j] using this
    simp only [List.length_cons, List.range'_succ, wpOpsS, h0]
    rcases gdT_elim h hf with ⟨hw, E', hf', hy⟩ | ⟨hw, E', hf', hn⟩
    · rw [if_pos hw]
      split at hy
      · rename_i hb
        simp only [Bool.and_eq_true] at hb
        rw [hasAll_exec hf' hb.1]
        have hout := opV_out (F := ⟨ok, may, fun _ _ => False⟩) hF hy
        have hup := fun (Q' : Exit → Act → World → Prop) => outP_upon_S (o := o) (a := a) (Q := Q') (next := fun a' w' => wpOpsS P ops Q (List.range' (k + 1) r.length) a' cs w') hout fun v w' hk =>
          opsT_S hF r (k + 1) _ w' K _ hl' hk (hf'.put ho) hd' fun E'' a' w'' h1 h2 h3 => hQ _ _ _ h1 h2 (frame_cons h3)
        split
        · rename_i w' hr
          rw [hr] at hout
          exact hout.elim
        · exact hup _
      · exact hy.elim
    · rw [if_neg (by rw [hw]; simp)]
      exact opsT_S hF r (k + 1) _ w K _ hl' hn (hf'.put ho) hd' fun E'' a' w'' h1 h2 h3 => hQ _ _ _ h1 h2 (frame_cons h3)
theorem recover_op {o : Oper} (h : isRecover o.op = true) (ρ : Operand → Value) (w : World) : (execOp ρ o).run P w = .ok .recover w := by
  obtain ⟨dst, op, type, pos, after, guard⟩ := o
  simp only at h
  unfold isRecover at h
  split at h
  · rename_i c
    split at h
    · rename_i hc
      simp only [execOp, resolve, hc, pure_bind, invoke]
      rfl
    · cases h
  · cases h
/-- **The formula of a deferred call implies what it does.** -/
theorem fnS_calls (hF : CallsOk P ok) (hm : P.follows .mixedOrders = true) {f : FuncId} {fn : Func} {pl : Plan} {args : List Value} {u : Option Value} {w : World} {R : World → Prop}
    (hf : P.funcs[f]? = some fn) (hN : (match fn.body with
      | some c => slotsOk fn.ntmps c
      | none => false) = true) (ha : Nat.ble args.length fn.ntmps = true)
    (h : fnTS P ok may pl fn args u w R) : CallD P f args.toArray u w R := by
  unfold fnTS at h
  split at h
  case h_2 => exact h.elim
  rename_i id ops d hc
  rw [hc] at hN
  simp only [slotsOk, Bool.and_eq_true] at hN
  split at h
  case h_2 => exact h.elim
  rename_i o r hops
  split at h
  case h_2 => exact h.elim
  rename_i hrec hgd hres
  have hd : dstOk fn.ntmps (o :: r) := by rw [← hops]; exact slotsOk_dst (id := id) (d := false) hN.1
  refine callsD_of_wpS hf hc fun c₀ cs hu => ?_
  have hfit := fits0 (n := fn.ntmps) (args := args) (Nat.le_of_ble_eq_true ha)
  refine wpS_seq (wpS_region ?_)
  have hsz : ops.size = r.length + 1 := by rw [← Array.length_toList, hops]; rfl
  have h0 : ops[0]? = some o := by rw [← Array.getElem?_toList, hops]; rfl
  have hl : ∀ j, r[j]? = ops[0 + 1 + j]? := fun j => by rw [← Array.getElem?_toList, hops, show 0 + 1 + j = j + 1 by omega]; rfl
  rw [hsz, List.range_eq_range', List.range'_succ]
  simp only [wpOpsS, h0]
  rw [if_pos (by simp [Region.wanted, hgd]), recover_op hrec]
  dsimp only
  have hfs : ∀ v : Value, Fits fn.ntmps ((env0 0 args).put o.dst v) ({ tmps := args.toArray ++ Array.replicate (fn.ntmps - args.toArray.size) undef, defers := [] : Act }.put o.dst v) := fun v => hfit.put (hd o List.mem_cons_self)
  have key : ∀ (cs' : List Frame) (u' : FrameMode), cs' = { c₀ with mode := u' } :: cs → u' = modeAfter u →
      wpOpsS P ops (Exit.thenS (d.wpS P (bodyPostS P fn c₀ cs fun e u' w' => e = .returned (.tuple #[]) ∧ u' = modeAfter u ∧ R w')) (bodyPostS P fn c₀ cs fun e u' w' => e = .returned (.tuple #[]) ∧ u' = modeAfter u ∧ R w')) (List.range' (0 + 1) r.length) ({ tmps := args.toArray ++ Array.replicate (fn.ntmps - args.toArray.size) undef, defers := [] : Act }.put o.dst (recV u)) cs' w := fun cs' u' hcs hu' => by
    refine opsT_S (N := fn.ntmps) (may := may) hF r _ _ _ _ _ hl h (hfs _) (fun x hx => hd x (List.mem_cons_of_mem _ hx)) fun E' a' w' h1 h2 h3 => ?_
    have hnd : a'.defers = [] := by rw [h3.2, put_defers]
    refine wpS_of_wp (wp_mono (codeT_wp (F := ⟨ok, may, fun _ _ => False⟩) hF hm d pl E' w' _ a' h1 h2 hN.2) fun e a'' w'' hq => ?_)
    rcases hq with ⟨E'', g1, g2, g3⟩ | ⟨v, rfl, g1, _⟩
    · have hnd' : a''.defers = [] := by rw [g3.2]; exact hnd
      have hr : (results fn a''.tmps).run P w'' = .ok (.tuple #[]) w'' := by
        obtain ⟨v, k1, s, k2, _⟩ := fin_run (tys := []) (R := fun _ _ => True) g2 (by unfold finT; rw [hres]; exact True.intro)
        cases k2
        exact k1
      cases e <;> try exact g1.elim
      · exact ⟨hnd', u', hcs, _, hr, rfl, hu', g1⟩
      · exact ⟨hnd', u', hcs, _, hr, rfl, hu', g1⟩
    · exact g1.elim
  cases u with
  | none =>
    have hrc : recoverD (c₀ :: cs) = none := by simp only [recoverD, hu, modeOf]
    rw [hrc]
    refine key _ .returning ?_ rfl
    have : c₀.mode = .returning := hu
    rw [← this]
  | some v =>
    have hrc : recoverD (c₀ :: cs) = some (v, { c₀ with mode := .panicking [{ v, recovered := true }] } :: cs) := by simp only [recoverD, hu, modeOf, onePanic]
    rw [hrc]
    exact key _ _ rfl rfl
end
end Sh
end Go.Proofs.YtpkadliieplblaaDoor
