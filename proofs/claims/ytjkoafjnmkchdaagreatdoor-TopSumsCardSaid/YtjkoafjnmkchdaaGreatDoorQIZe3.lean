/- Functions that defer a call, and deferred calls that recover: their formulas imply what a call does. Conditions: as for functions without. -/
import Derived.Test.YtjkoafjnmkchdaaGreatDoorQIZe2
import Derived.Test.YtjkoafjnmkchdaaGreatDoorChecked
namespace Go.Proofs.YtjkoafjnmkchdaaGreatDoor
namespace Sh
set_option linter.unusedVariables false
section
variable {P : Program} {N : Nat} {ok may : Nat → Bool}

theorem callFunc_enter (hF : CallsOk P ok) {g : Nat} (hg : enterB P ok g = true) (args : Array Value) (w : World) : (callFunc g args).run P w = .ok (.enter g args) w := by
  unfold enterB at hg
  split at hg
  · rename_i fn hok hfn
    obtain ⟨hb, hn⟩ := hF g fn hok hfn
    have hb' : fn.body.isNone = false := by cases hx : fn.body <;> simp_all
    have hn' : (fn.name == "runtime.NumGoroutine") = false := by simpa using hn
    simp only [callFunc, Sem.run_bind, run_program, Result.andThen_ok, hfn, hn', hb', Bool.false_eq_true, if_false, Sem.run_pure]
  · cases hg
/-- Operations, and then others. -/
theorem opsT_app {F : Fx} (hF : CallsOk P F.ok) {ops : Array Oper} {Q : Exit → Act → World → Prop} {m : List Oper} : ∀ (l : List Oper) (E : Env) (w : World) (K : Env → World → Prop) (a : Act),
    opsT P F false ops l E w K → Fits N E a → dstOk N l → (∀ E' a' w', K E' w' → Fits N E' a' → frame l a a' → wpList P ops Q m a' w') →
    (∀ v a' w', F.pk v w' → Fits N [] a' → frame l a a' → Q (.panic (onePanic v)) a' w') → wpList P ops Q (l ++ m) a w
  | [], E, w, K, a, h, hf, _, hQ, _ => hQ E a w h hf (frame.refl _ _)
  | o :: r, E, w, K, a, h, hf, hd, hQ, hP => by
    have hd' : dstOk N r := fun p hp => hd p (List.mem_cons_of_mem _ hp)
    have ho := hd o List.mem_cons_self
    rw [List.cons_append]
    unfold wpList
    rcases gdT_elim h hf with ⟨hw, E', hf', hy⟩ | ⟨hw, E', hf', hn⟩
    · rw [if_pos hw]
      refine .inl ?_
      split at hy
      · rename_i hb
        simp only [Bool.and_eq_true] at hb
        unfold Oper.wp
        rw [hasAll_exec hf' hb.1]
        refine out_upon (opV_out hF hy) (fun v w' hk => ?_) fun v w' hp => hP v a w' hp hf.some (frame.refl _ _)
        exact opsT_app hF r _ w' K _ hk (hf'.put ho) hd' (fun E'' a' w'' h1 h2 h3 => hQ _ _ _ h1 h2 (frame_cons h3)) fun v a' w'' h1 h2 h3 => hP v a' w'' h1 h2 (frame_cons h3)
      · exact hy.elim
    · rw [if_neg (by rw [hw]; simp)]
      exact opsT_app hF r _ w K _ hn (hf'.put ho) hd' (fun E'' a' w'' h1 h2 h3 => hQ _ _ _ h1 h2 (frame_cons h3)) fun v a' w'' h1 h2 h3 => hP v a' w'' h1 h2 (frame_cons h3)

theorem resolve_fn {E : Env} {a : Act} (hf : Fits N E a) {c : Call} {f : Operand} {g : Nat} {first captured : Array Value} {t : TypeId} (hc : calleeV c.callee = some f) (hv : funcV (E.rho f) = some (g, first, captured))
    (hh : (E.has f && c.args.toList.all E.has) = true) : (resolve a.eval c t : Sem Deferred) = pure { target := .fn (.func g) captured, args := first ++ c.args.map E.rho } := by
  simp only [Bool.and_eq_true] at hh
  have h1 : a.eval f = .func (.func g) first captured := by
    rw [hf.rho hh.1]
    unfold funcV at hv
    split at hv
    · rename_i g' fi ca e
      cases hv
      exact e
    · cases hv
  have h2 : c.args.map a.eval = c.args.map E.rho := by
    apply Array.ext'
    rw [Array.toList_map, Array.toList_map]
    refine List.map_congr_left fun x hx => hf.rho (List.all_eq_true.1 hh.2 x hx)
  have h3 : c.callee = .value f := by
    unfold calleeV at hc
    split at hc
    · rename_i f' e
      cases hc
      exact e
    · cases hc
  unfold resolve
  simp only [h3, h1, h2, Deferred.ofValue]

theorem keepOk_of {keep : List Nat} {c : Code} {b : Bool} (h : (keepOk keep c && b) = true) : keepOk keep c = true ∧ b = true := by simpa [Bool.and_eq_true] using h

def RR {tys : List Ty} (R : Sg tys → World → Prop) (PR : Value → World → Prop) (e : Ending) (w' : World) : Prop :=
  (∃ s : Sg tys, e = .returned (callV.retV (Sg.vals tys s)) ∧ R s w') ∨ ∃ v, e = .panicked (onePanic v) ∧ PR v w'

/-- The code of a function that defers. -/
theorem defT_wp (hF : CallsOk P ok) (hm : P.follows .mixedOrders = true) {PR : Value → World → Prop} {fn : Func} {tys : List Ty} {R : Sg tys → World → Prop} : ∀ (c : Code) (pl : DPlan) (E : Env) (w : World) (a : Act),
    defT P ok may PR fn tys R pl c E w → Fits fn.ntmps E a → a.defers = [] → slotsOk fn.ntmps c = true → c.wp P (bodyPostD P fn (RR R PR)) a w := by
  intro c
  induction c with
  | seq c d ihc ihd =>
    clear ihc
    intro pl E w a h hf hnd hs
    simp only [slotsOk, Bool.and_eq_true] at hs
    cases pl with
    | pre p r =>
      refine wp_seq (wp_mono (codeT_wp (F := ⟨ok, may, PR⟩) hF hm c p E w _ a h hf hs.1) fun e a' w' hq => ?_)
      rcases hq with ⟨E', h1, h2, h3⟩ | ⟨v, rfl, h1, h2, h3⟩
      · have hnd' : a'.defers = [] := by rw [h3.2]; exact hnd
        cases e <;> try exact h1.elim
        · exact ihd r E' w' a' h1 h2 hnd' hs.2
        · show Leaves P fn a'.tmps _ a'.defers .returning w'
          rw [hnd']
          obtain ⟨v, g1, g2⟩ := fin_run h2 h1
          exact ⟨v, g1, .inl g2⟩
      · have hnd' : a'.defers = [] := by rw [h3.2]; exact hnd
        show Leaves P fn a'.tmps _ a'.defers (.panicking (onePanic v)) w'
        rw [hnd']
        exact .inr ⟨v, rfl, h1⟩
    | here keep p =>
      cases c <;> try exact (show False from h).elim
      rename_i id ops dr
      cases dr with
      | true => exact (show False from h).elim
      | false =>
      have hd := slotsOk_dst hs.1
      replace h : opsT P ⟨ok, may, PR⟩ false ops ops.toList.dropLast E w fun E w => match ops.toList.getLast? with
        | some o => defOp E o fun g args => match keepOk keep d && enterB P ok g with
          | true => codeT P ⟨ok, may, fun v w => CallD P g args (some v) w fun w' => finT P fn tys R (Env.keep E keep) w'⟩ p d E w fun e E w => match e with
            | .normal => CallD P g args none w fun w' => finT P fn tys R E w'
            | .ret => CallD P g args none w fun w' => finT P fn tys R E w'
            | _ => False
          | false => False
        | none => False := h
      refine wp_seq (wp_region_list ?_)
      have hsub : ∀ o ∈ ops.toList.dropLast, o ∈ ops.toList := fun o ho => (List.dropLast_sublist _).subset ho
      cases hl : ops.toList.getLast? with
      | none =>
        rw [hl] at h
        have hnil : ops.toList = [] := List.getLast?_eq_none_iff.1 hl
        rw [hnil] at h
        exact (show False from h).elim
      | some o =>
      rw [hl] at h
      have hap : ops.toList = ops.toList.dropLast ++ [o] := by
        have hne : ops.toList ≠ [] := fun e => by rw [e] at hl; cases hl
        have h1 := List.dropLast_concat_getLast hne
        rw [List.getLast?_eq_some_getLast hne] at hl
        cases hl
        exact h1.symm
      rw [hap]
      have hom : o ∈ ops.toList := by rw [hap]; simp
      refine opsT_app (N := fn.ntmps) (F := ⟨ok, may, PR⟩) hF _ _ _ _ _ h hf (fun x hx => hd x (hsub x hx)) (fun E' a' w' h1 h2 h3 => ?_) fun v a' w' h1 h2 h3 => ?_
      · dsimp only at h1
        unfold defOp at h1
        split at h1
        · rename_i cc hdc hgd hdst
          split at h1
          · rename_i f hcf
            split at h1
            · rename_i g first captured hfv hh
              split at h1
              · rename_i hk0
                obtain ⟨hk, hg⟩ := keepOk_of hk0
                have hop : o.op = .defer cc := by
                  unfold deferC at hdc
                  split at hdc
                  · rename_i c' e; cases hdc; exact e
                  · cases hdc
                unfold wpList
                rw [if_pos (by simp [Region.wanted, hgd])]
                refine .inl ?_
                have hrun : (execOp a'.eval o).run P w' = .ok (.defer { target := .fn (.func g) captured, args := first ++ cc.args.map E'.rho }) w' := by
                  unfold execOp
                  simp only [hop, resolve_fn h2 hcf hfv hh, pure_bind, Sem.run_pure]
                unfold Oper.wp
                rw [hrun, Oper.upon_defer]
                have hnd' : a'.defers = [] := by rw [h3.2]; exact hnd
                rw [hdst]
                have hf3 : Fits fn.ntmps E' ({ a' with defers := { target := .fn (.func g) captured, args := first ++ cc.args.map E'.rho } :: a'.defers }.put none undef) := ⟨h2.size, h2.get⟩
                unfold wpList
                refine wp_mono (codeT_wp (F := ⟨ok, may, fun v w => CallD P g _ (some v) w fun w' => finT P fn tys R (Env.keep E' keep) w'⟩) hF hm d p _ w' _ _ h1 hf3 hs.2) fun e a'' w'' hq => ?_
                have hinv : (invoke (.fn (.func g) captured) (first ++ cc.args.map E'.rho)).run P w'' = .ok (.enter g ((first ++ cc.args.map E'.rho) ++ captured)) w'' := callFunc_enter hF hg _ _
                rcases hq with ⟨E'', g1, g2, g3⟩ | ⟨v, rfl, g1, g2, g3⟩
                · have hds : a''.defers = [{ target := .fn (.func g) captured, args := first ++ cc.args.map E'.rho }] := by rw [g3.2, put_defers]; simp only [hnd']
                  have key : (CallD P g ((first ++ cc.args.map E'.rho) ++ captured) none w'' fun w' => finT P fn tys R E'' w') → Leaves P fn a''.tmps (RR R PR) a''.defers .returning w'' := fun h => by
                    rw [hds]
                    refine leaves_cons (by simp) hinv (CallsD.mono h fun e u' w3 hr => ?_)
                    obtain ⟨rfl, rfl, hr⟩ := hr
                    obtain ⟨v, k1, k2⟩ := fin_run g2 hr
                    exact ⟨v, k1, .inl k2⟩
                  cases e <;> try exact g1.elim
                  · exact key g1
                  · exact key g1
                · have hds : a''.defers = [{ target := .fn (.func g) captured, args := first ++ cc.args.map E'.rho }] := by rw [g3.2, put_defers]; simp only [hnd']
                  show Leaves P fn a''.tmps (RR R PR) a''.defers (.panicking (onePanic v)) w''
                  rw [hds]
                  refine leaves_cons (by simp) hinv (CallsD.mono g1 fun e u' w3 hr => ?_)
                  obtain ⟨rfl, rfl, hr⟩ := hr
                  have hfit : Fits fn.ntmps (Env.keep E' keep) a'' := by
                    refine Held.fits (keep_held h2 keep fun t ht => ?_) g2.size
                    rw [g3.1 t (keepOk_wr hk t ht)]
                    rfl
                  obtain ⟨v, k1, k2⟩ := fin_run hfit hr
                  exact ⟨v, k1, .inl k2⟩
              · exact h1.elim
            · exact h1.elim
          · exact h1.elim
        · exact h1.elim
      · have hnd' : a'.defers = [] := by rw [h3.2]; exact hnd
        show Leaves P fn a'.tmps _ a'.defers (.panicking (onePanic v)) w'
        rw [hnd']
        exact .inr ⟨v, rfl, h1⟩
  | _ =>
    intro pl E w a h hf hnd hs
    cases pl <;> exact (show False from h).elim
/-- **The formula of a function that defers implies what a call of it does.** -/
theorem fnD_callsP {PR : Value → World → Prop} (hF : CallsOk P ok) (hm : P.follows .mixedOrders = true) {f : FuncId} {fn : Func} {pl : DPlan} {args : List Value} {w : World} {tys : List Ty} {R : Sg tys → World → Prop}
    (hf : P.funcs[f]? = some fn) (hN : (match fn.body with
      | some c => slotsOk fn.ntmps c
      | none => false) = true) (ha : Nat.ble args.length fn.ntmps = true)
    (h : fnTD P ok may PR pl fn args w tys R) : Calls P f args.toArray w fun e w' => (∃ s : Sg tys, e = .returned (callV.retV (Sg.vals tys s)) ∧ R s w') ∨ ∃ v, e = .panicked (onePanic v) ∧ PR v w' := by
  unfold fnTD at h
  split at h
  · exact h.elim
  · rename_i c hc
    rw [hc] at hN
    exact calls_of_wp_defers hf hc (defT_wp hF hm c pl _ w _ h (fits0 (Nat.le_of_ble_eq_true ha)) rfl hN)
theorem fnD_calls (hF : CallsOk P ok) (hm : P.follows .mixedOrders = true) {f : FuncId} {fn : Func} {pl : DPlan} {args : List Value} {w : World} {tys : List Ty} {R : Sg tys → World → Prop}
    (hf : P.funcs[f]? = some fn) (hN : (match fn.body with
      | some c => slotsOk fn.ntmps c
      | none => false) = true) (ha : Nat.ble args.length fn.ntmps = true)
    (h : fnTD P ok may (fun _ _ => False) pl fn args w tys R) : Calls P f args.toArray w fun e w' => ∃ s : Sg tys, e = .returned (callV.retV (Sg.vals tys s)) ∧ R s w' :=
  (fnD_callsP hF hm hf hN ha h).mono fun e w' he => he.elim id fun ⟨_, _, h⟩ => h.elim

theorem outP_upon_S {o : Oper} {a : Act} {next : Act → World → Prop} {Q : Exit → Act → World → Prop} {K : Value → World → Prop} {r : Result Next} (h : OutP P (fun _ _ => False) K r)
    (hk : ∀ v w', K v w' → next (a.put o.dst v) w') : o.upon P a next Q r := out_upon h hk fun _ _ h => h.elim
/-- Operations in a deferred call, after recover. -/
theorem opsT_S (hF : CallsOk P ok) {ops : Array Oper} {Q : Exit → Act → List Frame → World → Prop} {cs : List Frame} : ∀ (l : List Oper) (k : Nat) (E : Env) (w : World) (K : Env → World → Prop) (a : Act),
    (∀ j, l[j]? = ops[k + j]?) → opsT P ⟨ok, may, fun _ _ => False⟩ false ops l E w K → Fits N E a → dstOk N l → (∀ E' a' w', K E' w' → Fits N E' a' → frame l a a' → Q .normal a' cs w') →
    wpOpsS P ops Q (List.range' k l.length) a cs w
  | [], k, E, w, K, a, _, h, hf, _, hQ => hQ E a w h hf (frame.refl _ _)
  | o :: r, k, E, w, K, a, hl, h, hf, hd, hQ => by
    have hd' : dstOk N r := fun p hp => hd p (List.mem_cons_of_mem _ hp)
    have ho := hd o List.mem_cons_self
    have h0 : ops[k]? = some o := by simpa using (hl 0).symm
    have hl' : ∀ j, r[j]? = ops[k + 1 + j]? := fun j => by have := hl (j + 1); simpa [Nat.add_assoc, Nat.add_comm 1 j] using this
    simp only [List.length_cons, List.range'_succ, wpOpsS, h0]
    rcases gdT_elim h hf with ⟨hw, E', hf', hy⟩ | ⟨hw, E', hf', hn⟩
    · rw [if_pos hw]
      split at hy
      · rename_i hb
        simp only [Bool.and_eq_true] at hb
        rw [hasAll_exec hf' hb.1]
        have hout := opV_out (F := ⟨ok, may, fun _ _ => False⟩) hF hy
        have hup := fun (Q' : Exit → Act → World → Prop) => outP_upon_S (o := o) (a := a) (Q := Q') (next := fun a' w' => wpOpsS P ops Q (List.range' (k + 1) r.length) a' cs w') hout fun v w' hk =>
          opsT_S hF r (k + 1) _ w' K _ hl' hk (hf'.put ho) hd' fun E'' a' w'' h1 h2 h3 => hQ _ _ _ h1 h2 (frame_cons h3)
        split
        · rename_i w' hr
          rw [hr] at hout
          exact hout.elim
        · exact hup _
      · exact hy.elim
    · rw [if_neg (by rw [hw]; simp)]
      exact opsT_S hF r (k + 1) _ w K _ hl' hn (hf'.put ho) hd' fun E'' a' w'' h1 h2 h3 => hQ _ _ _ h1 h2 (frame_cons h3)
theorem recover_op {o : Oper} (h : isRecover o.op = true) (ρ : Operand → Value) (w : World) : (execOp ρ o).run P w = .ok .recover w := by
  obtain ⟨dst, op, type, pos, after, guard⟩ := o
  simp only at h
  unfold isRecover at h
  split at h
  · rename_i c
    split at h
    · rename_i hc
      simp only [execOp, resolve, hc, pure_bind, invoke]
      rfl
    · cases h
  · cases h
/-- **The formula of a deferred call implies what it does.** -/
theorem fnS_calls (hF : CallsOk P ok) (hm : P.follows .mixedOrders = true) {f : FuncId} {fn : Func} {pl : Plan} {args : List Value} {u : Option Value} {w : World} {R : World → Prop}
    (hf : P.funcs[f]? = some fn) (hN : (match fn.body with
      | some c => slotsOk fn.ntmps c
      | none => false) = true) (ha : Nat.ble args.length fn.ntmps = true)
    (h : fnTS P ok may pl fn args u w R) : CallD P f args.toArray u w R := by
  unfold fnTS at h
  split at h
  case h_2 => exact h.elim
  rename_i id ops d hc
  rw [hc] at hN
  simp only [slotsOk, Bool.and_eq_true] at hN
  split at h
  case h_2 => exact h.elim
  rename_i o r hops
  split at h
  case h_2 => exact h.elim
  rename_i hrec hgd hres
  have hd : dstOk fn.ntmps (o :: r) := by rw [← hops]; exact slotsOk_dst (id := id) (d := false) hN.1
  refine callsD_of_wpS hf hc fun c₀ cs hu => ?_
  have hfit := fits0 (n := fn.ntmps) (args := args) (Nat.le_of_ble_eq_true ha)
  refine wpS_seq (wpS_region ?_)
  have hsz : ops.size = r.length + 1 := by rw [← Array.length_toList, hops]; rfl
  have h0 : ops[0]? = some o := by rw [← Array.getElem?_toList, hops]; rfl
  have hl : ∀ j, r[j]? = ops[0 + 1 + j]? := fun j => by rw [← Array.getElem?_toList, hops, show 0 + 1 + j = j + 1 by omega]; rfl
  rw [hsz, List.range_eq_range', List.range'_succ]
  simp only [wpOpsS, h0]
  rw [if_pos (by simp [Region.wanted, hgd]), recover_op hrec]
  dsimp only
  have hfs : ∀ v : Value, Fits fn.ntmps ((env0 0 args).put o.dst v) ({ tmps := args.toArray ++ Array.replicate (fn.ntmps - args.toArray.size) undef, defers := [] : Act }.put o.dst v) := fun v => hfit.put (hd o List.mem_cons_self)
  have key : ∀ (cs' : List Frame) (u' : FrameMode), cs' = { c₀ with mode := u' } :: cs → u' = modeAfter u →
      wpOpsS P ops (Exit.thenS (d.wpS P (bodyPostS P fn c₀ cs fun e u' w' => e = .returned (.tuple #[]) ∧ u' = modeAfter u ∧ R w')) (bodyPostS P fn c₀ cs fun e u' w' => e = .returned (.tuple #[]) ∧ u' = modeAfter u ∧ R w')) (List.range' (0 + 1) r.length) ({ tmps := args.toArray ++ Array.replicate (fn.ntmps - args.toArray.size) undef, defers := [] : Act }.put o.dst (recV u)) cs' w := fun cs' u' hcs hu' => by
    refine opsT_S (N := fn.ntmps) (may := may) hF r _ _ _ _ _ hl h (hfs _) (fun x hx => hd x (List.mem_cons_of_mem _ hx)) fun E' a' w' h1 h2 h3 => ?_
    have hnd : a'.defers = [] := by rw [h3.2, put_defers]
    refine wpS_of_wp (wp_mono (codeT_wp (F := ⟨ok, may, fun _ _ => False⟩) hF hm d pl E' w' _ a' h1 h2 hN.2) fun e a'' w'' hq => ?_)
    rcases hq with ⟨E'', g1, g2, g3⟩ | ⟨v, rfl, g1, _⟩
    · have hnd' : a''.defers = [] := by rw [g3.2]; exact hnd
      have hr : (results fn a''.tmps).run P w'' = .ok (.tuple #[]) w'' := by
        obtain ⟨v, k1, s, k2, _⟩ := fin_run (tys := []) (R := fun _ _ => True) g2 (by unfold finT; rw [hres]; exact True.intro)
        cases k2
        exact k1
      cases e <;> try exact g1.elim
      · exact ⟨hnd', u', hcs, _, hr, rfl, hu', g1⟩
      · exact ⟨hnd', u', hcs, _, hr, rfl, hu', g1⟩
    · exact g1.elim
  cases u with
  | none =>
    have hrc : recoverD (c₀ :: cs) = none := by simp only [recoverD, hu, modeOf]
    rw [hrc]
    refine key _ .returning ?_ rfl
    have : c₀.mode = .returning := hu
    rw [← this]
  | some v =>
    have hrc : recoverD (c₀ :: cs) = some (v, { c₀ with mode := .panicking [{ v, recovered := true }] } :: cs) := by simp only [recoverD, hu, modeOf, onePanic]
    rw [hrc]
    exact key _ _ rfl rfl
end
end Sh
end Go.Proofs.YtjkoafjnmkchdaaGreatDoor

/- Which functions may be entered: each has a body. No condition. -/
namespace Go.Proofs.YtjkoafjnmkchdaaGreatDoor
open Sh
def FF (g : Nat) : Bool := Nat.ble 3 g && Nat.ble g 136
/-- Which functions may panic. -/
def MAY (g : Nat) : Bool := Nat.beq g 3 || Nat.beq g 4 || Nat.beq g 5 || Nat.beq g 8 || Nat.beq g 19 || Nat.beq g 27 || Nat.beq g 29 || Nat.beq g 36 || Nat.beq g 37 || Nat.beq g 42 || Nat.beq g 43 || Nat.beq g 44 || Nat.beq g 45 || Nat.beq g 59 || Nat.beq g 63 || Nat.beq g 71 || Nat.beq g 74 || Nat.beq g 75 || Nat.beq g 77 || Nat.beq g 78 || Nat.beq g 79 || Nat.beq g 88 || Nat.beq g 95 || Nat.beq g 102 || Nat.beq g 113 || Nat.beq g 124 || Nat.beq g 130
theorem ffAll : ((List.range 137).all fun g => !FF g || (match Tryz.prog.funcs[g]? with
  | some fn => fn.body.isSome && !(fn.name == "runtime.NumGoroutine")
  | none => true)) = true := by kernel_rfl
theorem okF : CallsOk Tryz.prog FF := by
  intro g fn hg hfn
  have hlt : g < 137 := by
    simp only [FF, Bool.and_eq_true] at hg
    have := Nat.le_of_ble_eq_true hg.2
    omega
  have h := List.all_eq_true.1 ffAll g (List.mem_range.2 hlt)
  simp only [hg, Bool.not_true, Bool.false_or, hfn, Bool.and_eq_true] at h
  exact ⟨h.1, by simpa using h.2⟩
theorem okM : Tryz.prog.follows .mixedOrders = true := by kernel_rfl
end Go.Proofs.YtjkoafjnmkchdaaGreatDoor

/- The formulas of 18 functions of the program, written by program (gen.py); the kernel checks each. No condition. -/
namespace Go.Proofs.YtjkoafjnmkchdaaGreatDoor
open Sh
set_option linter.unusedVariables false
set_option maxRecDepth 100000

def C52 (w : World) (R : Option Addr → World → Prop) : Prop :=
  Calls Tryz.prog 52 #[] w fun e w' => ∃ r0 : Option Addr, e = .returned (.pointer r0) ∧ R r0 w'
theorem C52.mono {w : World} {R R' : Option Addr → World → Prop} (h : C52 w R) (hr : ∀ r0 w', R r0 w' → R' r0 w') : C52 w R' :=
  Calls.mono h fun _ _ ⟨r0, he, hR⟩ => ⟨r0, he, hr _ _ hR⟩
def C108 (x1 : Option Addr) (way2 : Int) (w : World) (R : Bool → World → Prop) : Prop :=
  Calls Tryz.prog 108 #[.pointer x1, .int .i64 way2] w fun e w' => ∃ r0 : Bool, e = .returned (.bool r0) ∧ R r0 w'
theorem C108.mono {x1 : Option Addr} {way2 : Int} {w : World} {R R' : Bool → World → Prop} (h : C108 x1 way2 w R) (hr : ∀ r0 w', R r0 w' → R' r0 w') : C108 x1 way2 w R' :=
  Calls.mono h fun _ _ ⟨r0, he, hR⟩ => ⟨r0, he, hr _ _ hR⟩
def C121 (x1 : Option Addr) (way2 : Int) (w : World) (R : Int → World → Prop) : Prop :=
  Calls Tryz.prog 121 #[.pointer x1, .int .i64 way2] w fun e w' => ∃ r0 : Int, e = .returned (.int .i64 r0) ∧ R r0 w'
theorem C121.mono {x1 : Option Addr} {way2 : Int} {w : World} {R R' : Int → World → Prop} (h : C121 x1 way2 w R) (hr : ∀ r0 w', R r0 w' → R' r0 w') : C121 x1 way2 w R' :=
  Calls.mono h fun _ _ ⟨r0, he, hR⟩ => ⟨r0, he, hr _ _ hR⟩
def C109 (vw1 : Option Addr) (b2 : Int) (way3 : Int) (w : World) (R : World → Prop) : Prop :=
  Calls Tryz.prog 109 #[.pointer vw1, .int .i64 b2, .int .i64 way3] w fun e w' => e = .returned (.tuple #[]) ∧ R w'
theorem C109.mono {vw1 : Option Addr} {b2 : Int} {way3 : Int} {w : World} {R R' : World → Prop} (h : C109 vw1 b2 way3 w R) (hr : ∀ w', R w' → R' w') : C109 vw1 b2 way3 w R' :=
  Calls.mono h fun _ _ ⟨he, hR⟩ => ⟨he, hr _ hR⟩
def C85 (vw1 : Option Addr) (v2 : Int) (n3 : Int) (way4 : Int) (w : World) (R : Int → World → Prop) : Prop :=
  Calls Tryz.prog 85 #[.pointer vw1, .int .i64 v2, .int .i64 n3, .int .i64 way4] w fun e w' => ∃ r0 : Int, e = .returned (.int .i64 r0) ∧ R r0 w'
theorem C85.mono {vw1 : Option Addr} {v2 : Int} {n3 : Int} {way4 : Int} {w : World} {R R' : Int → World → Prop} (h : C85 vw1 v2 n3 way4 w R) (hr : ∀ r0 w', R r0 w' → R' r0 w') : C85 vw1 v2 n3 way4 w R' :=
  Calls.mono h fun _ _ ⟨r0, he, hR⟩ => ⟨r0, he, hr _ _ hR⟩
def C53 (vw1 : Option Addr) (v2 : Int) (n3 : Int) (w : World) (R : Int → World → Prop) : Prop :=
  Calls Tryz.prog 53 #[.pointer vw1, .int .i64 v2, .int .i64 n3] w fun e w' => ∃ r0 : Int, e = .returned (.int .i64 r0) ∧ R r0 w'
theorem C53.mono {vw1 : Option Addr} {v2 : Int} {n3 : Int} {w : World} {R R' : Int → World → Prop} (h : C53 vw1 v2 n3 w R) (hr : ∀ r0 w', R r0 w' → R' r0 w') : C53 vw1 v2 n3 w R' :=
  Calls.mono h fun _ _ ⟨r0, he, hR⟩ => ⟨r0, he, hr _ _ hR⟩
def C54 (vw1 : Option Addr) (w : World) (R : World → Prop) : Prop :=
  Calls Tryz.prog 54 #[.pointer vw1] w fun e w' => e = .returned (.tuple #[]) ∧ R w'
theorem C54.mono {vw1 : Option Addr} {w : World} {R R' : World → Prop} (h : C54 vw1 w R) (hr : ∀ w', R w' → R' w') : C54 vw1 w R' :=
  Calls.mono h fun _ _ ⟨he, hR⟩ => ⟨he, hr _ hR⟩
def C55 (vw1 : Option Addr) (s2 : ByteArray) (w : World) (R : World → Prop) : Prop :=
  Calls Tryz.prog 55 #[.pointer vw1, .string s2] w fun e w' => e = .returned (.tuple #[]) ∧ R w'
theorem C55.mono {vw1 : Option Addr} {s2 : ByteArray} {w : World} {R R' : World → Prop} (h : C55 vw1 s2 w R) (hr : ∀ w', R w' → R' w') : C55 vw1 s2 w R' :=
  Calls.mono h fun _ _ ⟨he, hR⟩ => ⟨he, hr _ hR⟩
def C86 (s1 : Slc) (w : World) (R : Slc → World → Prop) : Prop :=
  Calls Tryz.prog 86 #[Slc.v s1] w fun e w' => ∃ r0 : Slc, e = .returned (Slc.v r0) ∧ R r0 w'
theorem C86.mono {s1 : Slc} {w : World} {R R' : Slc → World → Prop} (h : C86 s1 w R) (hr : ∀ r0 w', R r0 w' → R' r0 w') : C86 s1 w R' :=
  Calls.mono h fun _ _ ⟨r0, he, hR⟩ => ⟨r0, he, hr _ _ hR⟩
def C56 (vw1 : Option Addr) (w : World) (R : ByteArray → World → Prop) : Prop :=
  Calls Tryz.prog 56 #[.pointer vw1] w fun e w' => ∃ r0 : ByteArray, e = .returned (.string r0) ∧ R r0 w'
theorem C56.mono {vw1 : Option Addr} {w : World} {R R' : ByteArray → World → Prop} (h : C56 vw1 w R) (hr : ∀ r0 w', R r0 w' → R' r0 w') : C56 vw1 w R' :=
  Calls.mono h fun _ _ ⟨r0, he, hR⟩ => ⟨r0, he, hr _ _ hR⟩
def C115 (r1 : Option Addr) (w : World) (R : Int → World → Prop) : Prop :=
  Calls Tryz.prog 115 #[.pointer r1] w fun e w' => ∃ r0 : Int, e = .returned (.int .i64 r0) ∧ R r0 w'
theorem C115.mono {r1 : Option Addr} {w : World} {R R' : Int → World → Prop} (h : C115 r1 w R) (hr : ∀ r0 w', R r0 w' → R' r0 w') : C115 r1 w R' :=
  Calls.mono h fun _ _ ⟨r0, he, hR⟩ => ⟨r0, he, hr _ _ hR⟩
def C116 (r1 : Option Addr) (way2 : Int) (w : World) (R : Int → World → Prop) : Prop :=
  Calls Tryz.prog 116 #[.pointer r1, .int .i64 way2] w fun e w' => ∃ r0 : Int, e = .returned (.int .i64 r0) ∧ R r0 w'
theorem C116.mono {r1 : Option Addr} {way2 : Int} {w : World} {R R' : Int → World → Prop} (h : C116 r1 way2 w R) (hr : ∀ r0 w', R r0 w' → R' r0 w') : C116 r1 way2 w R' :=
  Calls.mono h fun _ _ ⟨r0, he, hR⟩ => ⟨r0, he, hr _ _ hR⟩
def C100 (r1 : Option Addr) (n2 : Int) (way3 : Int) (w : World) (R : Int → Int → World → Prop) : Prop :=
  Calls Tryz.prog 100 #[.pointer r1, .int .i64 n2, .int .i64 way3] w fun e w' => ∃ r0 : Int, ∃ r1 : Int, e = .returned (.tuple #[.int .i64 r0, .int .i64 r1]) ∧ R r0 r1 w'
theorem C100.mono {r1 : Option Addr} {n2 : Int} {way3 : Int} {w : World} {R R' : Int → Int → World → Prop} (h : C100 r1 n2 way3 w R) (hr : ∀ r0 r1 w', R r0 r1 w' → R' r0 r1 w') : C100 r1 n2 way3 w R' :=
  Calls.mono h fun _ _ ⟨r0, r1, he, hR⟩ => ⟨r0, r1, he, hr _ _ _ hR⟩
def C72 (r1 : Option Addr) (n2 : Int) (w : World) (R : Int → Int → World → Prop) : Prop :=
  Calls Tryz.prog 72 #[.pointer r1, .int .i64 n2] w fun e w' => ∃ r0 : Int, ∃ r1 : Int, e = .returned (.tuple #[.int .i64 r0, .int .i64 r1]) ∧ R r0 r1 w'
theorem C72.mono {r1 : Option Addr} {n2 : Int} {w : World} {R R' : Int → Int → World → Prop} (h : C72 r1 n2 w R) (hr : ∀ r0 r1 w', R r0 r1 w' → R' r0 r1 w') : C72 r1 n2 w R' :=
  Calls.mono h fun _ _ ⟨r0, r1, he, hR⟩ => ⟨r0, r1, he, hr _ _ _ hR⟩
def C76 (r1 : Option Addr) (n2 : Int) (w : World) (R : ByteArray → Int → World → Prop) : Prop :=
  Calls Tryz.prog 76 #[.pointer r1, .int .i64 n2] w fun e w' => ∃ r0 : ByteArray, ∃ r1 : Int, e = .returned (.tuple #[.string r0, .int .i64 r1]) ∧ R r0 r1 w'
theorem C76.mono {r1 : Option Addr} {n2 : Int} {w : World} {R R' : ByteArray → Int → World → Prop} (h : C76 r1 n2 w R) (hr : ∀ r0 r1 w', R r0 r1 w' → R' r0 r1 w') : C76 r1 n2 w R' :=
  Calls.mono h fun _ _ ⟨r0, r1, he, hR⟩ => ⟨r0, r1, he, hr _ _ _ hR⟩
def C28 (s1 : ByteArray) (w : World) (R : Option Addr → World → Prop) : Prop :=
  Calls Tryz.prog 28 #[.string s1] w fun e w' => ∃ r0 : Option Addr, e = .returned (.pointer r0) ∧ R r0 w'
theorem C28.mono {s1 : ByteArray} {w : World} {R R' : Option Addr → World → Prop} (h : C28 s1 w R) (hr : ∀ r0 w', R r0 w' → R' r0 w') : C28 s1 w R' :=
  Calls.mono h fun _ _ ⟨r0, he, hR⟩ => ⟨r0, he, hr _ _ hR⟩
def C73 (r1 : Option Addr) (w : World) (R : World → Prop) : Prop :=
  Calls Tryz.prog 73 #[.pointer r1] w fun e w' => e = .returned (.tuple #[]) ∧ R w'
theorem C73.mono {r1 : Option Addr} {w : World} {R R' : World → Prop} (h : C73 r1 w R) (hr : ∀ w', R w' → R' w') : C73 r1 w R' :=
  Calls.mono h fun _ _ ⟨he, hR⟩ => ⟨he, hr _ hR⟩
def C30 (r1 : Option Addr) (w : World) (R : Int → World → Prop) : Prop :=
  Calls Tryz.prog 30 #[.pointer r1] w fun e w' => ∃ r0 : Int, e = .returned (.int .i64 r0) ∧ R r0 w'
theorem C30.mono {r1 : Option Addr} {w : World} {R R' : Int → World → Prop} (h : C30 r1 w R) (hr : ∀ r0 w', R r0 w' → R' r0 w') : C30 r1 w R' :=
  Calls.mono h fun _ _ ⟨r0, he, hR⟩ => ⟨r0, he, hr _ _ hR⟩

/-- foliant/bit.New -/
def S52 (w : World) (R : Option Addr → World → Prop) : Prop :=
  Nw w (.cells #[.int .i64 0, .int .i64 0, Slc.v ((⟨none, 0, 0⟩ : Slc))] 127) fun vw1 =>
  R (some (⟨w.heap.size, 0, none⟩ : Addr)) vw1
def pl52 : Plan := (.seq (.reg .seq) (.seq (.reg .seq) .leaf))
set_option maxRecDepth 100000 in
theorem T52 (w : World) (R : Option Addr → World → Prop) (h : S52 w R) : C52 w R := by
  have e : fnT Tryz.prog ⟨FF, MAY, (fun _ _ => False)⟩ pl52 Tryz.f52 [] w [(.one .ptr)] (fun s w => R s w) = S52 w R := by kernel_rfl
  exact (fn_calls okF okM Tryz.func52 (by kernel_rfl) (by kernel_rfl) (e.mpr h)).mono fun _ _ ⟨s, he, hR⟩ => ⟨s, he, hR⟩

/-- (*foliant/bit.side).other -/
def S108 (x1 : Option Addr) (way2 : Int) (w : World) (R : Bool → World → Prop) : Prop :=
  Nn x1 fun a3 =>
  Ld w a3 (Value.int .i64) fun (x4 : Int) =>
  Br (x4 != 0) (Nn x1 fun a5 =>
    Ld w a5 (Value.int .i64) fun (x6 : Int) =>
    R (x6 != way2) w) (R false w)
def pl108 : Plan := (.seq (.reg .seq) (.seq (.reg .seq) .leaf))
set_option maxRecDepth 100000 in
theorem T108 (x1 : Option Addr) (way2 : Int) (w : World) (R : Bool → World → Prop) (h : S108 x1 way2 w R) : C108 x1 way2 w R := by
  have e : fnT Tryz.prog ⟨FF, MAY, (fun _ _ => False)⟩ pl108 Tryz.f108 [.pointer x1, .int .i64 way2] w [(.one .bool)] (fun s w => R s w) = S108 x1 way2 w R := by kernel_rfl
  exact (fn_calls okF okM Tryz.func108 (by kernel_rfl) (by kernel_rfl) (e.mpr h)).mono fun _ _ ⟨s, he, hR⟩ => ⟨s, he, hR⟩

/-- (*foliant/bit.side).place -/
def S121 (x1 : Option Addr) (way2 : Int) (w : World) (R : Int → World → Prop) : Prop :=
  Br (way2 == 1) (Nn x1 fun a5 =>
    Ld w (a5.add 1) (Value.int .i64) fun (x6 : Int) =>
    R x6 w) (Nn x1 fun a7 =>
    Ld w (a7.add 1) (Value.int .i64) fun (x8 : Int) =>
    R (IntKind.i64.wrap (7 - x8)) w)
def pl121 : Plan := (.seq (.reg .seq) (.seq (.seq (.reg .seq) (.cond (.seq (.reg .seq) .leaf) .leaf)) (.seq (.reg .seq) .leaf)))
set_option maxRecDepth 100000 in
theorem T121 (x1 : Option Addr) (way2 : Int) (w : World) (R : Int → World → Prop) (h : S121 x1 way2 w R) : C121 x1 way2 w R := by
  have e : fnT Tryz.prog ⟨FF, MAY, (fun _ _ => False)⟩ pl121 Tryz.f121 [.pointer x1, .int .i64 way2] w [(.one (.int .i64))] (fun s w => R s w) = S121 x1 way2 w R := by kernel_rfl
  exact (fn_calls okF okM Tryz.func121 (by kernel_rfl) (by kernel_rfl) (e.mpr h)).mono fun _ _ ⟨s, he, hR⟩ => ⟨s, he, hR⟩

/-- (*foliant/bit.Writer).one -/
def S109 (vw1 : Option Addr) (b2 : Int) (way3 : Int) (w : World) (R : World → Prop) : Prop :=
  Nn vw1 fun a13 =>
  Ld w (a13.add 1) (Value.int .i64) fun (x14 : Int) =>
  Br (x14 == 0) (Nn vw1 fun a15 =>
    Ld w (a15.add 2) Slc.v fun (x16 : Slc) =>
    Nw w (.cells #[.int .u8 0] 5) fun vw17 =>
    Rn Tryz.prog (Builtin.append_ #[29, 29] 29 #[Slc.v x16, Slc.v ((⟨some ⟨w.heap.size, 0, none⟩, 1, 1⟩ : Slc))]) vw17 Slc.v fun (x18 : Slc) vw19 =>
    Nn vw1 fun a20 =>
    St vw19 (a20.add 2) (Slc.v x18) fun vw21 =>
    ∃ vS22 : World → Prop, vS22 vw21.drew ∧ Nn vw1 fun a23 =>
    LdS vS22 (a23.add 2) Slc.v fun (x24 : Slc) =>
    Nn vw1 fun a25 =>
    LdS vS22 (a25.add 2) Slc.v fun (x26 : Slc) =>
    0 ≤ (IntKind.i64.wrap (((x26.len : Nat) : Int) - 1)) ∧ (IntKind.i64.wrap (((x26.len : Nat) : Int) - 1)) < (x24.len : Nat) ∧ Nn x24.p fun a27 =>
    LdS vS22 (a27.add ((IntKind.i64.wrap (((x26.len : Nat) : Int) - 1)).toNat * 1)) (Value.int .u8) fun (x28 : Int) =>
    Nn vw1 fun a29 =>
    C121 (some a29) way3 vw21.drew fun r30 vw31 =>
      vS22 vw31 ∧ 0 ≤ r30 ∧ 0 ≤ (IntKind.i64.wrap (((x26.len : Nat) : Int) - 1)) ∧ (IntKind.i64.wrap (((x26.len : Nat) : Int) - 1)) < (x24.len : Nat) ∧ Nn x24.p fun a32 =>
      St vw31 (a32.add ((IntKind.i64.wrap (((x26.len : Nat) : Int) - 1)).toNat * 1)) (.int .u8 (ior .u8 x28 (IntKind.u8.wrap (IntKind.i64.wrap (b2 * 2 ^ (min (r30).toNat 64)))))) fun vw33 =>
      Nn vw1 fun a34 =>
      Ld vw33 (a34.add 1) (Value.int .i64) fun (x35 : Int) =>
      Nn vw1 fun a36 =>
      St vw33 (a36.add 1) (.int .i64 (Int.tmod (IntKind.i64.wrap (x35 + 1)) 8)) fun vw37 =>
      R vw37) (∃ vS38 : World → Prop, vS38 w.drew ∧ Nn vw1 fun a39 =>
    LdS vS38 (a39.add 2) Slc.v fun (x40 : Slc) =>
    Nn vw1 fun a41 =>
    LdS vS38 (a41.add 2) Slc.v fun (x42 : Slc) =>
    0 ≤ (IntKind.i64.wrap (((x42.len : Nat) : Int) - 1)) ∧ (IntKind.i64.wrap (((x42.len : Nat) : Int) - 1)) < (x40.len : Nat) ∧ Nn x40.p fun a43 =>
    LdS vS38 (a43.add ((IntKind.i64.wrap (((x42.len : Nat) : Int) - 1)).toNat * 1)) (Value.int .u8) fun (x44 : Int) =>
    Nn vw1 fun a45 =>
    C121 (some a45) way3 w.drew fun r46 vw47 =>
      vS38 vw47 ∧ 0 ≤ r46 ∧ 0 ≤ (IntKind.i64.wrap (((x42.len : Nat) : Int) - 1)) ∧ (IntKind.i64.wrap (((x42.len : Nat) : Int) - 1)) < (x40.len : Nat) ∧ Nn x40.p fun a48 =>
      St vw47 (a48.add ((IntKind.i64.wrap (((x42.len : Nat) : Int) - 1)).toNat * 1)) (.int .u8 (ior .u8 x44 (IntKind.u8.wrap (IntKind.i64.wrap (b2 * 2 ^ (min (r46).toNat 64)))))) fun vw49 =>
      Nn vw1 fun a50 =>
      Ld vw49 (a50.add 1) (Value.int .i64) fun (x51 : Int) =>
      Nn vw1 fun a52 =>
      St vw49 (a52.add 1) (.int .i64 (Int.tmod (IntKind.i64.wrap (x51 + 1)) 8)) fun vw53 =>
      R vw53)
def pl109 : Plan := (.seq (.seq (.reg .seq) (.cond (.reg .seq) .leaf)) (.seq (.reg (.held [22] (.take 0 (.take 1 (.take 2 (.take 3 (.take 4 (.take 5 (.take 6 (.take 7 (.take 8 (.take 9 (.take 10 (.take 11 (.take 12 (.take 13 (.take 14 (.take 15 (.take 16 (.eff 17 none (.take 18 (.take 19 (.take 20 (.take 21 (.eff 22 (some []) .done))))))))))))))))))))))))) (.reg .seq)))
set_option maxRecDepth 100000 in
theorem T109 (vw1 : Option Addr) (b2 : Int) (way3 : Int) (w : World) (R : World → Prop) (h : S109 vw1 b2 way3 w R) : C109 vw1 b2 way3 w R := by
  have e : fnT Tryz.prog ⟨FF, MAY, (fun _ _ => False)⟩ pl109 Tryz.f109 [.pointer vw1, .int .i64 b2, .int .i64 way3] w [] (fun _ w => R w) = S109 vw1 b2 way3 w R := by kernel_rfl
  exact (fn_calls okF okM Tryz.func109 (by kernel_rfl) (by kernel_rfl) (e.mpr h)).mono fun _ _ ⟨_, he, hR⟩ => ⟨he, hR⟩

def S85L1 (vw1 : Option Addr) (v2 : Int) (n3 : Int) (way4 : Int) (R : Int → World → Prop) (I19 : Int → World → Prop) (s17 : Int) (vw18 : World) : Prop :=
  Br (decide (s17 < n3)) (Br (way4 == 2) (0 ≤ (IntKind.i64.wrap ((IntKind.i64.wrap (n3 - 1)) - s17)) ∧ Lt (iand .i64 (Int.fdiv v2 (2 ^ (min (IntKind.i64.wrap ((IntKind.i64.wrap (n3 - 1)) - s17)).toNat 64))) 1) fun (x20 : Int) =>
      C109 vw1 x20 way4 vw18 fun vw21 =>
        I19 (IntKind.i64.wrap (s17 + 1)) vw21) (0 ≤ s17 ∧ C109 vw1 (iand .i64 (Int.fdiv v2 (2 ^ (min (s17).toNat 64))) 1) way4 vw18 fun vw22 =>
        I19 (IntKind.i64.wrap (s17 + 1)) vw22)) (Br (decide (n3 > 0)) (Nn vw1 fun a23 =>
      St vw18 a23 (.int .i64 way4) fun vw24 =>
      R 0 vw24) (R 0 vw18))
/-- (*foliant/bit.Writer).put -/
def S85 (vw1 : Option Addr) (v2 : Int) (n3 : Int) (way4 : Int) (w : World) (R : Int → World → Prop) : Prop :=
  Br vw1.isNone (R 1 w) (Br (decide (n3 < 0)) (R 1 w) (Br (decide (n3 > 24)) (R 1 w) (Br (decide (v2 < 0)) (R 1 w) (0 ≤ n3 ∧ Br (decide (v2 ≥ (IntKind.i64.wrap (1 * 2 ^ (min (n3).toNat 64))))) (R 1 w) (Nn vw1 fun a8 =>
            C108 (some a8) way4 w fun r9 vw10 =>
              Br r9 (R 1 vw10) (Lp (σ := Int) (S85L1 vw1 v2 n3 way4 R) 0 vw10))))))
def pl85 : Plan := (.seq (.reg .seq) (.seq (.seq (.reg .seq) (.cond (.seq (.reg .seq) .leaf) .leaf)) (.seq (.seq (.reg .seq) (.block (.loop [(38, (.one (.int .i64)))] [0, 1, 2, 3, 37] (.seq (.reg .seq) (.seq (.cond .leaf .leaf) (.seq (.block (.seq (.reg .seq) (.seq (.seq (.reg .seq) (.cond (.reg .seq) .leaf)) (.reg .seq)))) (.reg .seq))))))) (.seq (.seq (.reg .seq) (.cond (.reg .seq) .leaf)) (.seq (.reg .seq) .leaf)))))
set_option maxRecDepth 100000 in
theorem T85 (vw1 : Option Addr) (v2 : Int) (n3 : Int) (way4 : Int) (w : World) (R : Int → World → Prop) (h : S85 vw1 v2 n3 way4 w R) : C85 vw1 v2 n3 way4 w R := by
  have e : fnT Tryz.prog ⟨FF, MAY, (fun _ _ => False)⟩ pl85 Tryz.f85 [.pointer vw1, .int .i64 v2, .int .i64 n3, .int .i64 way4] w [(.one (.int .i64))] (fun s w => R s w) = S85 vw1 v2 n3 way4 w R := by kernel_rfl
  exact (fn_calls okF okM Tryz.func85 (by kernel_rfl) (by kernel_rfl) (e.mpr h)).mono fun _ _ ⟨s, he, hR⟩ => ⟨s, he, hR⟩

/-- (*foliant/bit.Writer).Low -/
def S53 (vw1 : Option Addr) (v2 : Int) (n3 : Int) (w : World) (R : Int → World → Prop) : Prop :=
  C85 vw1 v2 n3 1 w fun r4 vw5 =>
    R r4 vw5
def pl53 : Plan := (.seq (.reg .seq) (.seq (.reg .seq) .leaf))
set_option maxRecDepth 100000 in
theorem T53 (vw1 : Option Addr) (v2 : Int) (n3 : Int) (w : World) (R : Int → World → Prop) (h : S53 vw1 v2 n3 w R) : C53 vw1 v2 n3 w R := by
  have e : fnT Tryz.prog ⟨FF, MAY, (fun _ _ => False)⟩ pl53 Tryz.f53 [.pointer vw1, .int .i64 v2, .int .i64 n3] w [(.one (.int .i64))] (fun s w => R s w) = S53 vw1 v2 n3 w R := by kernel_rfl
  exact (fn_calls okF okM Tryz.func53 (by kernel_rfl) (by kernel_rfl) (e.mpr h)).mono fun _ _ ⟨s, he, hR⟩ => ⟨s, he, hR⟩

/-- (*foliant/bit.Writer).Align -/
def S54 (vw1 : Option Addr) (w : World) (R : World → Prop) : Prop :=
  Br (!(vw1.isNone)) (Nn vw1 fun a2 =>
    St w a2 (.int .i64 0) fun vw3 =>
    St vw3 (a2.add 1) (.int .i64 0) fun vw4 =>
    R vw4) (R w)
def pl54 : Plan := (.seq (.reg .seq) (.cond (.reg .seq) .leaf))
set_option maxRecDepth 100000 in
theorem T54 (vw1 : Option Addr) (w : World) (R : World → Prop) (h : S54 vw1 w R) : C54 vw1 w R := by
  have e : fnT Tryz.prog ⟨FF, MAY, (fun _ _ => False)⟩ pl54 Tryz.f54 [.pointer vw1] w [] (fun _ w => R w) = S54 vw1 w R := by kernel_rfl
  exact (fn_calls okF okM Tryz.func54 (by kernel_rfl) (by kernel_rfl) (e.mpr h)).mono fun _ _ ⟨_, he, hR⟩ => ⟨he, hR⟩

/-- (*foliant/bit.Writer).Raw -/
def S55 (vw1 : Option Addr) (s2 : ByteArray) (w : World) (R : World → Prop) : Prop :=
  Br vw1.isNone (R w) (Nn vw1 fun a6 =>
    Ld w (a6.add 1) (Value.int .i64) fun (x7 : Int) =>
    Br (decide (x7 > 0)) (C54 vw1 w fun vw8 =>
        Nn vw1 fun a9 =>
        Ld vw8 (a9.add 2) Slc.v fun (x10 : Slc) =>
        Rn Tryz.prog (Builtin.append_ #[29, 9] 29 #[Slc.v x10, .string s2]) vw8 Slc.v fun (x11 : Slc) vw12 =>
        Nn vw1 fun a13 =>
        St vw12 (a13.add 2) (Slc.v x11) fun vw14 =>
        R vw14) (Nn vw1 fun a15 =>
      Ld w (a15.add 2) Slc.v fun (x16 : Slc) =>
      Rn Tryz.prog (Builtin.append_ #[29, 9] 29 #[Slc.v x16, .string s2]) w Slc.v fun (x17 : Slc) vw18 =>
      Nn vw1 fun a19 =>
      St vw18 (a19.add 2) (Slc.v x17) fun vw20 =>
      R vw20))
def pl55 : Plan := (.seq (.seq (.reg .seq) (.cond .leaf .leaf)) (.seq (.seq (.reg .seq) (.cond (.reg .seq) .leaf)) (.reg .seq)))
set_option maxRecDepth 100000 in
theorem T55 (vw1 : Option Addr) (s2 : ByteArray) (w : World) (R : World → Prop) (h : S55 vw1 s2 w R) : C55 vw1 s2 w R := by
  have e : fnT Tryz.prog ⟨FF, MAY, (fun _ _ => False)⟩ pl55 Tryz.f55 [.pointer vw1, .string s2] w [] (fun _ w => R w) = S55 vw1 s2 w R := by kernel_rfl
  exact (fn_calls okF okM Tryz.func55 (by kernel_rfl) (by kernel_rfl) (e.mpr h)).mono fun _ _ ⟨_, he, hR⟩ => ⟨he, hR⟩

/-- slices.Clone[[]byte,byte] -/
def S86 (s1 : Slc) (w : World) (R : Slc → World → Prop) : Prop :=
  Br s1.p.isNone (R (⟨none, 0, 0⟩ : Slc) w) (Nw w (.cells #[] 5) fun vw2 =>
    Rn Tryz.prog (Builtin.append_ #[29, 29] 29 #[Slc.v ((⟨some ⟨w.heap.size, 0, none⟩, 0, 0⟩ : Slc)), Slc.v s1]) vw2 Slc.v fun (x3 : Slc) vw4 =>
    R x3 vw4)
def pl86 : Plan := (.seq (.reg .seq) (.seq (.seq (.reg .seq) (.cond (.seq (.reg .seq) .leaf) .leaf)) (.seq (.reg .seq) .leaf)))
set_option maxRecDepth 100000 in
theorem T86 (s1 : Slc) (w : World) (R : Slc → World → Prop) (h : S86 s1 w R) : C86 s1 w R := by
  have e : fnT Tryz.prog ⟨FF, MAY, (fun _ _ => False)⟩ pl86 Tryz.f86 [Slc.v s1] w [(.one .slc)] (fun s w => R s w) = S86 s1 w R := by kernel_rfl
  exact (fn_calls okF okM Tryz.func86 (by kernel_rfl) (by kernel_rfl) (e.mpr h)).mono fun _ _ ⟨s, he, hR⟩ => ⟨s, he, hR⟩

/-- (*foliant/bit.Writer).Text -/
def S56 (vw1 : Option Addr) (w : World) (R : ByteArray → World → Prop) : Prop :=
  Br vw1.isNone (R (⟨#[]⟩ : ByteArray) w) (Nn vw1 fun a2 =>
    Ld w (a2.add 2) Slc.v fun (x3 : Slc) =>
    C86 x3 w fun r4 vw5 =>
      Rn Tryz.prog (convert 29 9 (Slc.v r4)) vw5 Value.string fun (x6 : ByteArray) vw7 =>
      R x6 vw7)
def pl56 : Plan := (.seq (.reg .seq) (.seq (.seq (.reg .seq) (.cond (.seq (.reg .seq) .leaf) .leaf)) (.seq (.reg .seq) .leaf)))
set_option maxRecDepth 100000 in
theorem T56 (vw1 : Option Addr) (w : World) (R : ByteArray → World → Prop) (h : S56 vw1 w R) : C56 vw1 w R := by
  have e : fnT Tryz.prog ⟨FF, MAY, (fun _ _ => False)⟩ pl56 Tryz.f56 [.pointer vw1] w [(.one .str)] (fun s w => R s w) = S56 vw1 w R := by kernel_rfl
  exact (fn_calls okF okM Tryz.func56 (by kernel_rfl) (by kernel_rfl) (e.mpr h)).mono fun _ _ ⟨s, he, hR⟩ => ⟨s, he, hR⟩

/-- (*foliant/bit.Reader).Left -/
def S115 (r1 : Option Addr) (w : World) (R : Int → World → Prop) : Prop :=
  Br r1.isNone (R 0 w) (Nn r1 fun a2 =>
    Ld w.drew (a2.add 2) Value.string fun (x3 : ByteArray) =>
    Nn r1 fun a4 =>
    Ld w.drew (a4.add 3) (Value.int .i64) fun (x5 : Int) =>
    Nn r1 fun a6 =>
    Ld w.drew (a6.add 1) (Value.int .i64) fun (x7 : Int) =>
    Lt (IntKind.i64.wrap ((IntKind.i64.wrap (8 * (IntKind.i64.wrap ((((x3).size : Nat) : Int) - x5)))) - x7)) fun (x8 : Int) =>
    R x8 w.drew)
def pl115 : Plan := (.seq (.reg .seq) (.seq (.seq (.reg .seq) (.cond (.seq (.reg .seq) .leaf) .leaf)) (.seq (.reg .still) .leaf)))
set_option maxRecDepth 100000 in
theorem T115 (r1 : Option Addr) (w : World) (R : Int → World → Prop) (h : S115 r1 w R) : C115 r1 w R := by
  have e : fnT Tryz.prog ⟨FF, MAY, (fun _ _ => False)⟩ pl115 Tryz.f115 [.pointer r1] w [(.one (.int .i64))] (fun s w => R s w) = S115 r1 w R := by kernel_rfl
  exact (fn_calls okF okM Tryz.func115 (by kernel_rfl) (by kernel_rfl) (e.mpr h)).mono fun _ _ ⟨s, he, hR⟩ => ⟨s, he, hR⟩

/-- (*foliant/bit.Reader).one -/
def S116 (r1 : Option Addr) (way2 : Int) (w : World) (R : Int → World → Prop) : Prop :=
  ∃ vS3 : World → Prop, vS3 w.drew ∧ Nn r1 fun a4 =>
  LdS vS3 (a4.add 2) Value.string fun (x5 : ByteArray) =>
  Nn r1 fun a6 =>
  LdS vS3 (a6.add 3) (Value.int .i64) fun (x7 : Int) =>
  0 ≤ x7 ∧ x7 < ((x5).size : Nat) ∧ Nn r1 fun a8 =>
  C121 (some a8) way2 w.drew fun r9 vw10 =>
    vS3 vw10 ∧ 0 ≤ r9 ∧ Nn r1 fun a11 =>
    Ld vw10 (a11.add 1) (Value.int .i64) fun (x12 : Int) =>
    Nn r1 fun a13 =>
    St vw10 (a13.add 1) (.int .i64 (IntKind.i64.wrap (x12 + 1))) fun vw14 =>
    Nn r1 fun a15 =>
    Ld vw14 (a15.add 1) (Value.int .i64) fun (x16 : Int) =>
    Br (x16 == 8) (Nn r1 fun a17 =>
      St vw14 (a17.add 1) (.int .i64 0) fun vw18 =>
      Nn r1 fun a19 =>
      Ld vw18 (a19.add 3) (Value.int .i64) fun (x20 : Int) =>
      Nn r1 fun a21 =>
      St vw18 (a21.add 3) (.int .i64 (IntKind.i64.wrap (x20 + 1))) fun vw22 =>
      R (iand .i64 (Int.fdiv (IntKind.i64.wrap (bAt x5 x7)) (2 ^ (min (r9).toNat 64))) 1) vw22) (R (iand .i64 (Int.fdiv (IntKind.i64.wrap (bAt x5 x7)) (2 ^ (min (r9).toNat 64))) 1) vw14)
def pl116 : Plan := (.seq (.reg .seq) (.seq (.reg (.held [] (.take 0 (.take 1 (.take 2 (.take 3 (.take 4 (.take 5 (.take 6 (.take 7 (.take 8 (.take 9 (.take 10 (.take 11 (.take 12 (.take 13 (.eff 14 none (.take 15 (.take 16 (.take 17 .done)))))))))))))))))))) (.seq (.seq (.reg .seq) (.seq (.reg .seq) (.cond (.seq (.reg .seq) (.reg .seq)) .leaf))) (.seq (.reg .seq) .leaf))))
set_option maxRecDepth 100000 in
theorem T116 (r1 : Option Addr) (way2 : Int) (w : World) (R : Int → World → Prop) (h : S116 r1 way2 w R) : C116 r1 way2 w R := by
  have e : fnT Tryz.prog ⟨FF, MAY, (fun _ _ => False)⟩ pl116 Tryz.f116 [.pointer r1, .int .i64 way2] w [(.one (.int .i64))] (fun s w => R s w) = S116 r1 way2 w R := by kernel_rfl
  exact (fn_calls okF okM Tryz.func116 (by kernel_rfl) (by kernel_rfl) (e.mpr h)).mono fun _ _ ⟨s, he, hR⟩ => ⟨s, he, hR⟩

def S100L1 (r1 : Option Addr) (n2 : Int) (way3 : Int) (R : Int → Int → World → Prop) (I21 : (Int × Int) → World → Prop) (s19 : Int × Int) (vw20 : World) : Prop :=
  Br (decide (s19.2 < n2)) (C116 r1 way3 vw20 fun r22 vw23 =>
      Br (way3 == 1) (0 ≤ s19.2 ∧ I21 (ior .i64 s19.1 (IntKind.i64.wrap (r22 * 2 ^ (min (s19.2).toNat 64))), IntKind.i64.wrap (s19.2 + 1)) vw23) (I21 (ior .i64 (IntKind.i64.wrap (s19.1 * 2 ^ 1)) r22, IntKind.i64.wrap (s19.2 + 1)) vw23)) (Br (decide (n2 > 0)) (Nn r1 fun a24 =>
      St vw20 a24 (.int .i64 way3) fun vw25 =>
      R s19.1 0 vw25) (R s19.1 0 vw20))
/-- (*foliant/bit.Reader).take -/
def S100 (r1 : Option Addr) (n2 : Int) (way3 : Int) (w : World) (R : Int → Int → World → Prop) : Prop :=
  Br r1.isNone (R 0 1 w) (Br (decide (n2 < 0)) (R 0 1 w) (Br (decide (n2 > 24)) (R 0 1 w) (Nn r1 fun a9 =>
        C108 (some a9) way3 w fun r10 vw11 =>
          Br r10 (R 0 1 vw11) (C115 r1 vw11 fun r12 vw13 =>
              Br (decide (n2 > r12)) (R 0 4 vw13) (Lp (σ := Int × Int) (S100L1 r1 n2 way3 R) (0, 0) vw13)))))
def pl100 : Plan := (.seq (.reg .seq) (.seq (.block (.seq (.reg .seq) (.cond (.seq (.reg .seq) .leaf) (.seq (.reg .seq) (.cond (.seq (.reg .seq) .leaf) .leaf))))) (.seq (.reg .seq) (.seq (.seq (.reg .seq) (.block (.loop [(8, (.one (.int .i64))), (35, (.one (.int .i64)))] [0, 1, 2, 34] (.seq (.reg .seq) (.seq (.cond .leaf .leaf) (.seq (.block (.seq (.reg .seq) (.seq (.reg .seq) (.seq (.reg .seq) (.cond (.reg .seq) (.reg .seq)))))) (.reg .seq))))))) (.seq (.seq (.reg .seq) (.cond (.reg .seq) .leaf)) (.seq (.reg .seq) .leaf))))))
set_option maxRecDepth 100000 in
theorem T100 (r1 : Option Addr) (n2 : Int) (way3 : Int) (w : World) (R : Int → Int → World → Prop) (h : S100 r1 n2 way3 w R) : C100 r1 n2 way3 w R := by
  have e : fnT Tryz.prog ⟨FF, MAY, (fun _ _ => False)⟩ pl100 Tryz.f100 [.pointer r1, .int .i64 n2, .int .i64 way3] w [(.one (.int .i64)), (.one (.int .i64))] (fun s w => R s.1 s.2 w) = S100 r1 n2 way3 w R := by kernel_rfl
  exact (fn_calls okF okM Tryz.func100 (by kernel_rfl) (by kernel_rfl) (e.mpr h)).mono fun _ _ ⟨s, he, hR⟩ => ⟨s.1, s.2, he, hR⟩

/-- (*foliant/bit.Reader).Low -/
def S72 (r1 : Option Addr) (n2 : Int) (w : World) (R : Int → Int → World → Prop) : Prop :=
  C100 r1 n2 1 w fun r3 r4 vw5 =>
    R r3 r4 vw5
def pl72 : Plan := (.seq (.reg .seq) (.seq (.reg .seq) .leaf))
set_option maxRecDepth 100000 in
theorem T72 (r1 : Option Addr) (n2 : Int) (w : World) (R : Int → Int → World → Prop) (h : S72 r1 n2 w R) : C72 r1 n2 w R := by
  have e : fnT Tryz.prog ⟨FF, MAY, (fun _ _ => False)⟩ pl72 Tryz.f72 [.pointer r1, .int .i64 n2] w [(.one (.int .i64)), (.one (.int .i64))] (fun s w => R s.1 s.2 w) = S72 r1 n2 w R := by kernel_rfl
  exact (fn_calls okF okM Tryz.func72 (by kernel_rfl) (by kernel_rfl) (e.mpr h)).mono fun _ _ ⟨s, he, hR⟩ => ⟨s.1, s.2, he, hR⟩

/-- (*foliant/bit.Reader).Raw -/
def S76 (r1 : Option Addr) (n2 : Int) (w : World) (R : ByteArray → Int → World → Prop) : Prop :=
  Br r1.isNone (R (⟨#[]⟩ : ByteArray) 1 w) (Br (decide (n2 < 0)) (R (⟨#[]⟩ : ByteArray) 1 w) (Nn r1 fun a9 =>
      Ld w (a9.add 1) (Value.int .i64) fun (x10 : Int) =>
      Br (decide (x10 > 0)) (R (⟨#[]⟩ : ByteArray) 1 w) (Nn r1 fun a11 =>
        Ld w.drew (a11.add 2) Value.string fun (x12 : ByteArray) =>
        Nn r1 fun a13 =>
        Ld w.drew (a13.add 3) (Value.int .i64) fun (x14 : Int) =>
        Br (decide (n2 > (IntKind.i64.wrap ((((x12).size : Nat) : Int) - x14)))) (R (⟨#[]⟩ : ByteArray) 4 w.drew) (Nn r1 fun a15 =>
          Ld w.drew (a15.add 3) (Value.int .i64) fun (x16 : Int) =>
          Nn r1 fun a17 =>
          St w.drew (a17.add 3) (.int .i64 (IntKind.i64.wrap (x16 + n2))) fun vw18 =>
          Nn r1 fun a19 =>
          Ld vw18.drew (a19.add 2) Value.string fun (x20 : ByteArray) =>
          Nn r1 fun a21 =>
          Ld vw18.drew (a21.add 3) (Value.int .i64) fun (x22 : Int) =>
          Nn r1 fun a23 =>
          Ld vw18.drew (a23.add 3) (Value.int .i64) fun (x24 : Int) =>
          0 ≤ x24 ∧ x24 ≤ (((x20).size : Nat) : Int) ∧ 0 ≤ (IntKind.i64.wrap (x22 - n2)) ∧ (IntKind.i64.wrap (x22 - n2)) ≤ (((x24).toNat : Nat) : Int) ∧ R (x20.extract ((IntKind.i64.wrap (x22 - n2)).toNat) ((x24).toNat)) 0 vw18.drew))))
def pl76 : Plan := (.seq (.reg .seq) (.seq (.block (.seq (.reg .seq) (.cond (.seq (.reg .seq) .leaf) (.seq (.reg .still) (.cond (.seq (.reg .seq) .leaf) .leaf))))) (.seq (.reg .seq) (.seq (.reg .still) .leaf))))
set_option maxRecDepth 100000 in
theorem T76 (r1 : Option Addr) (n2 : Int) (w : World) (R : ByteArray → Int → World → Prop) (h : S76 r1 n2 w R) : C76 r1 n2 w R := by
  have e : fnT Tryz.prog ⟨FF, MAY, (fun _ _ => False)⟩ pl76 Tryz.f76 [.pointer r1, .int .i64 n2] w [(.one .str), (.one (.int .i64))] (fun s w => R s.1 s.2 w) = S76 r1 n2 w R := by kernel_rfl
  exact (fn_calls okF okM Tryz.func76 (by kernel_rfl) (by kernel_rfl) (e.mpr h)).mono fun _ _ ⟨s, he, hR⟩ => ⟨s.1, s.2, he, hR⟩

/-- foliant/bit.From -/
def S28 (s1 : ByteArray) (w : World) (R : Option Addr → World → Prop) : Prop :=
  Nw w (.cells #[.int .i64 0, .int .i64 0, .string s1, .int .i64 0] 72) fun vw2 =>
  R (some (⟨w.heap.size, 0, none⟩ : Addr)) vw2
def pl28 : Plan := (.seq (.reg .seq) (.seq (.reg .seq) .leaf))
set_option maxRecDepth 100000 in
theorem T28 (s1 : ByteArray) (w : World) (R : Option Addr → World → Prop) (h : S28 s1 w R) : C28 s1 w R := by
  have e : fnT Tryz.prog ⟨FF, MAY, (fun _ _ => False)⟩ pl28 Tryz.f28 [.string s1] w [(.one .ptr)] (fun s w => R s w) = S28 s1 w R := by kernel_rfl
  exact (fn_calls okF okM Tryz.func28 (by kernel_rfl) (by kernel_rfl) (e.mpr h)).mono fun _ _ ⟨s, he, hR⟩ => ⟨s, he, hR⟩

/-- (*foliant/bit.Reader).Align -/
def S73 (r1 : Option Addr) (w : World) (R : World → Prop) : Prop :=
  Br r1.isNone (R w) (Nn r1 fun a2 =>
    Ld w (a2.add 1) (Value.int .i64) fun (x3 : Int) =>
    Br (decide (x3 > 0)) (Nn r1 fun a4 =>
      Ld w (a4.add 3) (Value.int .i64) fun (x5 : Int) =>
      Nn r1 fun a6 =>
      St w (a6.add 3) (.int .i64 (IntKind.i64.wrap (x5 + 1))) fun vw7 =>
      Nn r1 fun a8 =>
      St vw7 a8 (.int .i64 0) fun vw9 =>
      St vw9 (a8.add 1) (.int .i64 0) fun vw10 =>
      R vw10) (Nn r1 fun a11 =>
      St w a11 (.int .i64 0) fun vw12 =>
      St vw12 (a11.add 1) (.int .i64 0) fun vw13 =>
      R vw13))
def pl73 : Plan := (.seq (.seq (.reg .seq) (.cond .leaf .leaf)) (.seq (.seq (.reg .seq) (.cond (.reg .seq) .leaf)) (.reg .seq)))
set_option maxRecDepth 100000 in
theorem T73 (r1 : Option Addr) (w : World) (R : World → Prop) (h : S73 r1 w R) : C73 r1 w R := by
  have e : fnT Tryz.prog ⟨FF, MAY, (fun _ _ => False)⟩ pl73 Tryz.f73 [.pointer r1] w [] (fun _ w => R w) = S73 r1 w R := by kernel_rfl
  exact (fn_calls okF okM Tryz.func73 (by kernel_rfl) (by kernel_rfl) (e.mpr h)).mono fun _ _ ⟨_, he, hR⟩ => ⟨he, hR⟩

/-- (*foliant/bit.Reader).At -/
def S30 (r1 : Option Addr) (w : World) (R : Int → World → Prop) : Prop :=
  Br r1.isNone (R 0 w) (Nn r1 fun a6 =>
    Ld w (a6.add 1) (Value.int .i64) fun (x7 : Int) =>
    Br (decide (x7 > 0)) (Nn r1 fun a8 =>
      Ld w (a8.add 3) (Value.int .i64) fun (x9 : Int) =>
      R (IntKind.i64.wrap (x9 + 1)) w) (Nn r1 fun a10 =>
      Ld w (a10.add 3) (Value.int .i64) fun (x11 : Int) =>
      R x11 w))
def pl30 : Plan := (.seq (.reg .seq) (.seq (.seq (.reg .seq) (.cond (.seq (.reg .seq) .leaf) .leaf)) (.seq (.seq (.reg .seq) (.cond (.seq (.reg .seq) .leaf) .leaf)) (.seq (.reg .seq) .leaf))))
set_option maxRecDepth 100000 in
theorem T30 (r1 : Option Addr) (w : World) (R : Int → World → Prop) (h : S30 r1 w R) : C30 r1 w R := by
  have e : fnT Tryz.prog ⟨FF, MAY, (fun _ _ => False)⟩ pl30 Tryz.f30 [.pointer r1] w [(.one (.int .i64))] (fun s w => R s w) = S30 r1 w R := by kernel_rfl
  exact (fn_calls okF okM Tryz.func30 (by kernel_rfl) (by kernel_rfl) (e.mpr h)).mono fun _ _ ⟨s, he, hR⟩ => ⟨s, he, hR⟩

end Go.Proofs.YtjkoafjnmkchdaaGreatDoor

/- The formulas of 23 functions of the program, written by program (gen.py); the kernel checks each. No condition. -/
namespace Go.Proofs.YtjkoafjnmkchdaaGreatDoor
open Sh
set_option linter.unusedVariables false
set_option maxRecDepth 100000

def C91 (lens1 : Slc) (w : World) (R : (Int × Int × Int × Int × Int × Int × Int × Int × Int × Int × Int × Int × Int × Int × Int × Int) → World → Prop) : Prop :=
  Calls Tryz.prog 91 #[Slc.v lens1] w fun e w' => ∃ r0 : Int × Int × Int × Int × Int × Int × Int × Int × Int × Int × Int × Int × Int × Int × Int × Int, e = .returned (.agg #[.int .i64 (r0.1), .int .i64 (r0.2.1), .int .i64 (r0.2.2.1), .int .i64 (r0.2.2.2.1), .int .i64 (r0.2.2.2.2.1), .int .i64 (r0.2.2.2.2.2.1), .int .i64 (r0.2.2.2.2.2.2.1), .int .i64 (r0.2.2.2.2.2.2.2.1), .int .i64 (r0.2.2.2.2.2.2.2.2.1), .int .i64 (r0.2.2.2.2.2.2.2.2.2.1), .int .i64 (r0.2.2.2.2.2.2.2.2.2.2.1), .int .i64 (r0.2.2.2.2.2.2.2.2.2.2.2.1), .int .i64 (r0.2.2.2.2.2.2.2.2.2.2.2.2.1), .int .i64 (r0.2.2.2.2.2.2.2.2.2.2.2.2.2.1), .int .i64 (r0.2.2.2.2.2.2.2.2.2.2.2.2.2.2.1), .int .i64 (r0.2.2.2.2.2.2.2.2.2.2.2.2.2.2.2)]) ∧ R r0 w'
theorem C91.mono {lens1 : Slc} {w : World} {R R' : (Int × Int × Int × Int × Int × Int × Int × Int × Int × Int × Int × Int × Int × Int × Int × Int) → World → Prop} (h : C91 lens1 w R) (hr : ∀ r0 w', R r0 w' → R' r0 w') : C91 lens1 w R' :=
  Calls.mono h fun _ _ ⟨r0, he, hR⟩ => ⟨r0, he, hr _ _ hR⟩
def C92 (n1 : Int × Int × Int × Int × Int × Int × Int × Int × Int × Int × Int × Int × Int × Int × Int × Int) (w : World) (R : (Int × Int × Int × Int × Int × Int × Int × Int × Int × Int × Int × Int × Int × Int × Int × Int) → World → Prop) : Prop :=
  Calls Tryz.prog 92 #[.agg #[.int .i64 (n1.1), .int .i64 (n1.2.1), .int .i64 (n1.2.2.1), .int .i64 (n1.2.2.2.1), .int .i64 (n1.2.2.2.2.1), .int .i64 (n1.2.2.2.2.2.1), .int .i64 (n1.2.2.2.2.2.2.1), .int .i64 (n1.2.2.2.2.2.2.2.1), .int .i64 (n1.2.2.2.2.2.2.2.2.1), .int .i64 (n1.2.2.2.2.2.2.2.2.2.1), .int .i64 (n1.2.2.2.2.2.2.2.2.2.2.1), .int .i64 (n1.2.2.2.2.2.2.2.2.2.2.2.1), .int .i64 (n1.2.2.2.2.2.2.2.2.2.2.2.2.1), .int .i64 (n1.2.2.2.2.2.2.2.2.2.2.2.2.2.1), .int .i64 (n1.2.2.2.2.2.2.2.2.2.2.2.2.2.2.1), .int .i64 (n1.2.2.2.2.2.2.2.2.2.2.2.2.2.2.2)]] w fun e w' => ∃ r0 : Int × Int × Int × Int × Int × Int × Int × Int × Int × Int × Int × Int × Int × Int × Int × Int, e = .returned (.agg #[.int .i64 (r0.1), .int .i64 (r0.2.1), .int .i64 (r0.2.2.1), .int .i64 (r0.2.2.2.1), .int .i64 (r0.2.2.2.2.1), .int .i64 (r0.2.2.2.2.2.1), .int .i64 (r0.2.2.2.2.2.2.1), .int .i64 (r0.2.2.2.2.2.2.2.1), .int .i64 (r0.2.2.2.2.2.2.2.2.1), .int .i64 (r0.2.2.2.2.2.2.2.2.2.1), .int .i64 (r0.2.2.2.2.2.2.2.2.2.2.1), .int .i64 (r0.2.2.2.2.2.2.2.2.2.2.2.1), .int .i64 (r0.2.2.2.2.2.2.2.2.2.2.2.2.1), .int .i64 (r0.2.2.2.2.2.2.2.2.2.2.2.2.2.1), .int .i64 (r0.2.2.2.2.2.2.2.2.2.2.2.2.2.2.1), .int .i64 (r0.2.2.2.2.2.2.2.2.2.2.2.2.2.2.2)]) ∧ R r0 w'
theorem C92.mono {n1 : Int × Int × Int × Int × Int × Int × Int × Int × Int × Int × Int × Int × Int × Int × Int × Int} {w : World} {R R' : (Int × Int × Int × Int × Int × Int × Int × Int × Int × Int × Int × Int × Int × Int × Int × Int) → World → Prop} (h : C92 n1 w R) (hr : ∀ r0 w', R r0 w' → R' r0 w') : C92 n1 w R' :=
  Calls.mono h fun _ _ ⟨r0, he, hR⟩ => ⟨r0, he, hr _ _ hR⟩
def C111 (lens1 : Slc) (w : World) (R : Int → World → Prop) : Prop :=
  Calls Tryz.prog 111 #[Slc.v lens1] w fun e w' => ∃ r0 : Int, e = .returned (.int .i64 r0) ∧ R r0 w'
theorem C111.mono {lens1 : Slc} {w : World} {R R' : Int → World → Prop} (h : C111 lens1 w R) (hr : ∀ r0 w', R r0 w' → R' r0 w') : C111 lens1 w R' :=
  Calls.mono h fun _ _ ⟨r0, he, hR⟩ => ⟨r0, he, hr _ _ hR⟩
def C89 (lens1 : Slc) (w : World) (R : Slc → Int → World → Prop) : Prop :=
  Calls Tryz.prog 89 #[Slc.v lens1] w fun e w' => ∃ r0 : Slc, ∃ r1 : Int, e = .returned (.tuple #[Slc.v r0, .int .i64 r1]) ∧ R r0 r1 w'
theorem C89.mono {lens1 : Slc} {w : World} {R R' : Slc → Int → World → Prop} (h : C89 lens1 w R) (hr : ∀ r0 r1 w', R r0 r1 w' → R' r0 r1 w') : C89 lens1 w R' :=
  Calls.mono h fun _ _ ⟨r0, r1, he, hR⟩ => ⟨r0, r1, he, hr _ _ _ hR⟩
def C90 (s1 : Slc) (w : World) (R : Slc → World → Prop) : Prop :=
  Calls Tryz.prog 90 #[Slc.v s1] w fun e w' => ∃ r0 : Slc, e = .returned (Slc.v r0) ∧ R r0 w'
theorem C90.mono {s1 : Slc} {w : World} {R R' : Slc → World → Prop} (h : C90 s1 w R) (hr : ∀ r0 w', R r0 w' → R' r0 w') : C90 s1 w R' :=
  Calls.mono h fun _ _ ⟨r0, he, hR⟩ => ⟨r0, he, hr _ _ hR⟩
def C60 (lens1 : Slc) (w : World) (R : Option Addr → Int → World → Prop) : Prop :=
  Calls Tryz.prog 60 #[Slc.v lens1] w fun e w' => ∃ r0 : Option Addr, ∃ r1 : Int, e = .returned (.tuple #[.pointer r0, .int .i64 r1]) ∧ R r0 r1 w'
theorem C60.mono {lens1 : Slc} {w : World} {R R' : Option Addr → Int → World → Prop} (h : C60 lens1 w R) (hr : ∀ r0 r1 w', R r0 r1 w' → R' r0 r1 w') : C60 lens1 w R' :=
  Calls.mono h fun _ _ ⟨r0, r1, he, hR⟩ => ⟨r0, r1, he, hr _ _ _ hR⟩
def C129 (i1 : Int) (first2 : Int) (each3 : Int) (w : World) (R : (Int × Int) → World → Prop) : Prop :=
  Calls Tryz.prog 129 #[.int .i64 i1, .int .i64 first2, .int .i64 each3] w fun e w' => ∃ r0 : Int × Int, e = .returned (.agg #[.int .i64 (r0.1), .int .i64 (r0.2)]) ∧ R r0 w'
theorem C129.mono {i1 : Int} {first2 : Int} {each3 : Int} {w : World} {R R' : (Int × Int) → World → Prop} (h : C129 i1 first2 each3 w R) (hr : ∀ r0 w', R r0 w' → R' r0 w') : C129 i1 first2 each3 w R' :=
  Calls.mono h fun _ _ ⟨r0, he, hR⟩ => ⟨r0, he, hr _ _ hR⟩
def C118 (i1 : Int) (w : World) (R : (Int × Int) → World → Prop) : Prop :=
  Calls Tryz.prog 118 #[.int .i64 i1] w fun e w' => ∃ r0 : Int × Int, e = .returned (.agg #[.int .i64 (r0.1), .int .i64 (r0.2)]) ∧ R r0 w'
theorem C118.mono {i1 : Int} {w : World} {R R' : (Int × Int) → World → Prop} (h : C118 i1 w R) (hr : ∀ r0 w', R r0 w' → R' r0 w') : C118 i1 w R' :=
  Calls.mono h fun _ _ ⟨r0, he, hR⟩ => ⟨r0, he, hr _ _ hR⟩
def C128 (x1 : Int × Int) (more2 : Int) (w : World) (R : Int → Int → World → Prop) : Prop :=
  Calls Tryz.prog 128 #[.agg #[.int .i64 (x1.1), .int .i64 (x1.2)], .int .i64 more2] w fun e w' => ∃ r0 : Int, ∃ r1 : Int, e = .returned (.tuple #[.int .i64 r0, .int .i64 r1]) ∧ R r0 r1 w'
theorem C128.mono {x1 : Int × Int} {more2 : Int} {w : World} {R R' : Int → Int → World → Prop} (h : C128 x1 more2 w R) (hr : ∀ r0 r1 w', R r0 r1 w' → R' r0 r1 w') : C128 x1 more2 w R' :=
  Calls.mono h fun _ _ ⟨r0, r1, he, hR⟩ => ⟨r0, r1, he, hr _ _ _ hR⟩
def C117 (sign1 : Int) (more2 : Int) (w : World) (R : Int → Int → World → Prop) : Prop :=
  Calls Tryz.prog 117 #[.int .i64 sign1, .int .i64 more2] w fun e w' => ∃ r0 : Int, ∃ r1 : Int, e = .returned (.tuple #[.int .i64 r0, .int .i64 r1]) ∧ R r0 r1 w'
theorem C117.mono {sign1 : Int} {more2 : Int} {w : World} {R R' : Int → Int → World → Prop} (h : C117 sign1 more2 w R) (hr : ∀ r0 r1 w', R r0 r1 w' → R' r0 r1 w') : C117 sign1 more2 w R' :=
  Calls.mono h fun _ _ ⟨r0, r1, he, hR⟩ => ⟨r0, r1, he, hr _ _ _ hR⟩
def C120 (i1 : Int) (w : World) (R : (Int × Int) → World → Prop) : Prop :=
  Calls Tryz.prog 120 #[.int .i64 i1] w fun e w' => ∃ r0 : Int × Int, e = .returned (.agg #[.int .i64 (r0.1), .int .i64 (r0.2)]) ∧ R r0 w'
theorem C120.mono {i1 : Int} {w : World} {R R' : (Int × Int) → World → Prop} (h : C120 i1 w R) (hr : ∀ r0 w', R r0 w' → R' r0 w') : C120 i1 w R' :=
  Calls.mono h fun _ _ ⟨r0, he, hR⟩ => ⟨r0, he, hr _ _ hR⟩
def C119 (sign1 : Int) (more2 : Int) (w : World) (R : Int → Int → World → Prop) : Prop :=
  Calls Tryz.prog 119 #[.int .i64 sign1, .int .i64 more2] w fun e w' => ∃ r0 : Int, ∃ r1 : Int, e = .returned (.tuple #[.int .i64 r0, .int .i64 r1]) ∧ R r0 r1 w'
theorem C119.mono {sign1 : Int} {more2 : Int} {w : World} {R R' : Int → Int → World → Prop} (h : C119 sign1 more2 w R) (hr : ∀ r0 r1 w', R r0 r1 w' → R' r0 r1 w') : C119 sign1 more2 w R' :=
  Calls.mono h fun _ _ ⟨r0, r1, he, hR⟩ => ⟨r0, r1, he, hr _ _ _ hR⟩
def C80 (n1 : Int) (w : World) (R : Int → World → Prop) : Prop :=
  Calls Tryz.prog 80 #[.int .i64 n1] w fun e w' => ∃ r0 : Int, e = .returned (.int .i64 r0) ∧ R r0 w'
theorem C80.mono {n1 : Int} {w : World} {R R' : Int → World → Prop} (h : C80 n1 w R) (hr : ∀ r0 w', R r0 w' → R' r0 w') : C80 n1 w R' :=
  Calls.mono h fun _ _ ⟨r0, he, hR⟩ => ⟨r0, he, hr _ _ hR⟩
def C46 (s1 : ByteArray) (vat2 : Int) (w : World) (R : Int → World → Prop) : Prop :=
  Calls Tryz.prog 46 #[.string s1, .int .i64 vat2] w fun e w' => ∃ r0 : Int, e = .returned (.int .i64 r0) ∧ R r0 w'
theorem C46.mono {s1 : ByteArray} {vat2 : Int} {w : World} {R R' : Int → World → Prop} (h : C46 s1 vat2 w R) (hr : ∀ r0 w', R r0 w' → R' r0 w') : C46 s1 vat2 w R' :=
  Calls.mono h fun _ _ ⟨r0, he, hR⟩ => ⟨r0, he, hr _ _ hR⟩
def C82 (lens1 : Slc) (w : World) (R : Int → World → Prop) : Prop :=
  Calls Tryz.prog 82 #[Slc.v lens1] w fun e w' => ∃ r0 : Int, e = .returned (.int .i64 r0) ∧ R r0 w'
theorem C82.mono {lens1 : Slc} {w : World} {R R' : Int → World → Prop} (h : C82 lens1 w R) (hr : ∀ r0 w', R r0 w' → R' r0 w') : C82 lens1 w R' :=
  Calls.mono h fun _ _ ⟨r0, he, hR⟩ => ⟨r0, he, hr _ _ hR⟩
def C50 (lens1 : Slc) (w : World) (R : Int → World → Prop) : Prop :=
  Calls Tryz.prog 50 #[Slc.v lens1] w fun e w' => ∃ r0 : Int, e = .returned (.int .i64 r0) ∧ R r0 w'
theorem C50.mono {lens1 : Slc} {w : World} {R R' : Int → World → Prop} (h : C50 lens1 w R) (hr : ∀ r0 w', R r0 w' → R' r0 w') : C50 lens1 w R' :=
  Calls.mono h fun _ _ ⟨r0, he, hR⟩ => ⟨r0, he, hr _ _ hR⟩
def C103 (lens1 : Slc) (n2 : Int) (ahead3 : Int) (w : World) (R : Int → World → Prop) : Prop :=
  Calls Tryz.prog 103 #[Slc.v lens1, .int .i64 n2, .int .i64 ahead3] w fun e w' => ∃ r0 : Int, e = .returned (.int .i64 r0) ∧ R r0 w'
theorem C103.mono {lens1 : Slc} {n2 : Int} {ahead3 : Int} {w : World} {R R' : Int → World → Prop} (h : C103 lens1 n2 ahead3 w R) (hr : ∀ r0 w', R r0 w' → R' r0 w') : C103 lens1 n2 ahead3 w R' :=
  Calls.mono h fun _ _ ⟨r0, he, hR⟩ => ⟨r0, he, hr _ _ hR⟩
def C83 (lens1 : Slc) (s2 : ByteArray) (vat3 : Int) (w : World) (R : Int → Int → Int → World → Prop) : Prop :=
  Calls Tryz.prog 83 #[Slc.v lens1, .string s2, .int .i64 vat3] w fun e w' => ∃ r0 : Int, ∃ r1 : Int, ∃ r2 : Int, e = .returned (.tuple #[.int .i64 r0, .int .i64 r1, .int .i64 r2]) ∧ R r0 r1 r2 w'
theorem C83.mono {lens1 : Slc} {s2 : ByteArray} {vat3 : Int} {w : World} {R R' : Int → Int → Int → World → Prop} (h : C83 lens1 s2 vat3 w R) (hr : ∀ r0 r1 r2 w', R r0 r1 r2 w' → R' r0 r1 r2 w') : C83 lens1 s2 vat3 w R' :=
  Calls.mono h fun _ _ ⟨r0, r1, r2, he, hR⟩ => ⟨r0, r1, r2, he, hr _ _ _ _ hR⟩
def C104 (sign1 : Int) (w : World) (R : Int → World → Prop) : Prop :=
  Calls Tryz.prog 104 #[.int .i64 sign1] w fun e w' => ∃ r0 : Int, e = .returned (.int .i64 r0) ∧ R r0 w'
theorem C104.mono {sign1 : Int} {w : World} {R R' : Int → World → Prop} (h : C104 sign1 w R) (hr : ∀ r0 w', R r0 w' → R' r0 w') : C104 sign1 w R' :=
  Calls.mono h fun _ _ ⟨r0, he, hR⟩ => ⟨r0, he, hr _ _ hR⟩
def C105 (sign1 : Int) (more2 : Int) (w : World) (R : Int → Int → World → Prop) : Prop :=
  Calls Tryz.prog 105 #[.int .i64 sign1, .int .i64 more2] w fun e w' => ∃ r0 : Int, ∃ r1 : Int, e = .returned (.tuple #[.int .i64 r0, .int .i64 r1]) ∧ R r0 r1 w'
theorem C105.mono {sign1 : Int} {more2 : Int} {w : World} {R R' : Int → Int → World → Prop} (h : C105 sign1 more2 w R) (hr : ∀ r0 r1 w', R r0 r1 w' → R' r0 r1 w') : C105 sign1 more2 w R' :=
  Calls.mono h fun _ _ ⟨r0, r1, he, hR⟩ => ⟨r0, r1, he, hr _ _ _ hR⟩
def C106 (sign1 : Int) (w : World) (R : Int → World → Prop) : Prop :=
  Calls Tryz.prog 106 #[.int .i64 sign1] w fun e w' => ∃ r0 : Int, e = .returned (.int .i64 r0) ∧ R r0 w'
theorem C106.mono {sign1 : Int} {w : World} {R R' : Int → World → Prop} (h : C106 sign1 w R) (hr : ∀ r0 w', R r0 w' → R' r0 w') : C106 sign1 w R' :=
  Calls.mono h fun _ _ ⟨r0, he, hR⟩ => ⟨r0, he, hr _ _ hR⟩
def C107 (sign1 : Int) (more2 : Int) (w : World) (R : Int → Int → World → Prop) : Prop :=
  Calls Tryz.prog 107 #[.int .i64 sign1, .int .i64 more2] w fun e w' => ∃ r0 : Int, ∃ r1 : Int, e = .returned (.tuple #[.int .i64 r0, .int .i64 r1]) ∧ R r0 r1 w'
theorem C107.mono {sign1 : Int} {more2 : Int} {w : World} {R R' : Int → Int → World → Prop} (h : C107 sign1 more2 w R) (hr : ∀ r0 r1 w', R r0 r1 w' → R' r0 r1 w') : C107 sign1 more2 w R' :=
  Calls.mono h fun _ _ ⟨r0, r1, he, hR⟩ => ⟨r0, r1, he, hr _ _ _ hR⟩
def C101 (t1 : Option Addr) (r2 : Option Addr) (w : World) (R : Int → Int → World → Prop) : Prop :=
  Calls Tryz.prog 101 #[.pointer t1, .pointer r2] w fun e w' => ∃ r0 : Int, ∃ r1 : Int, e = .returned (.tuple #[.int .i64 r0, .int .i64 r1]) ∧ R r0 r1 w'
theorem C101.mono {t1 : Option Addr} {r2 : Option Addr} {w : World} {R R' : Int → Int → World → Prop} (h : C101 t1 r2 w R) (hr : ∀ r0 r1 w', R r0 r1 w' → R' r0 r1 w') : C101 t1 r2 w R' :=
  Calls.mono h fun _ _ ⟨r0, r1, he, hR⟩ => ⟨r0, r1, he, hr _ _ _ hR⟩

def S91L1 (w : World) (lens1 : Slc) (vw2 : World) (R : (Int × Int × Int × Int × Int × Int × Int × Int × Int × Int × Int × Int × Int × Int × Int × Int) → World → Prop) (I6 : Int → World → Prop) (s4 : Int) (vw5 : World) : Prop :=
  Br (decide (s4 < ((lens1.len : Nat) : Int))) (0 ≤ s4 ∧ s4 < (lens1.len : Nat) ∧ Nn lens1.p fun a7 =>
    Ld vw5 (a7.add ((s4).toNat * 1)) (Value.int .i64) fun (x8 : Int) =>
    Br (decide (x8 > 0)) (0 ≤ x8 ∧ x8 < (16 : Nat) ∧ Ld vw5 ((⟨vw2.heap.size, 0, none⟩ : Addr).add ((x8).toNat * 1)) (Value.int .i64) fun (x9 : Int) =>
      0 ≤ x8 ∧ x8 < (16 : Nat) ∧ St vw5 ((⟨vw2.heap.size, 0, none⟩ : Addr).add ((x8).toNat * 1)) (.int .i64 (IntKind.i64.wrap (x9 + 1))) fun vw10 =>
      I6 (IntKind.i64.wrap (s4 + 1)) vw10) (I6 (IntKind.i64.wrap (s4 + 1)) vw5)) (Ld vw5 (⟨vw2.heap.size, 0, none⟩ : Addr) (Value.int .i64) fun (x11 : Int) =>
    Ld vw5 ((⟨vw2.heap.size, 0, none⟩ : Addr).add 1) (Value.int .i64) fun (x12 : Int) =>
    Ld vw5 ((⟨vw2.heap.size, 0, none⟩ : Addr).add 2) (Value.int .i64) fun (x13 : Int) =>
    Ld vw5 ((⟨vw2.heap.size, 0, none⟩ : Addr).add 3) (Value.int .i64) fun (x14 : Int) =>
    Ld vw5 ((⟨vw2.heap.size, 0, none⟩ : Addr).add 4) (Value.int .i64) fun (x15 : Int) =>
    Ld vw5 ((⟨vw2.heap.size, 0, none⟩ : Addr).add 5) (Value.int .i64) fun (x16 : Int) =>
    Ld vw5 ((⟨vw2.heap.size, 0, none⟩ : Addr).add 6) (Value.int .i64) fun (x17 : Int) =>
    Ld vw5 ((⟨vw2.heap.size, 0, none⟩ : Addr).add 7) (Value.int .i64) fun (x18 : Int) =>
    Ld vw5 ((⟨vw2.heap.size, 0, none⟩ : Addr).add 8) (Value.int .i64) fun (x19 : Int) =>
    Ld vw5 ((⟨vw2.heap.size, 0, none⟩ : Addr).add 9) (Value.int .i64) fun (x20 : Int) =>
    Ld vw5 ((⟨vw2.heap.size, 0, none⟩ : Addr).add 10) (Value.int .i64) fun (x21 : Int) =>
    Ld vw5 ((⟨vw2.heap.size, 0, none⟩ : Addr).add 11) (Value.int .i64) fun (x22 : Int) =>
    Ld vw5 ((⟨vw2.heap.size, 0, none⟩ : Addr).add 12) (Value.int .i64) fun (x23 : Int) =>
    Ld vw5 ((⟨vw2.heap.size, 0, none⟩ : Addr).add 13) (Value.int .i64) fun (x24 : Int) =>
    Ld vw5 ((⟨vw2.heap.size, 0, none⟩ : Addr).add 14) (Value.int .i64) fun (x25 : Int) =>
    Ld vw5 ((⟨vw2.heap.size, 0, none⟩ : Addr).add 15) (Value.int .i64) fun (x26 : Int) =>
    St vw5 (⟨w.heap.size, 0, none⟩ : Addr) (.int .i64 x11) fun vw27 =>
    St vw27 ((⟨w.heap.size, 0, none⟩ : Addr).add 1) (.int .i64 x12) fun vw28 =>
    St vw28 ((⟨w.heap.size, 0, none⟩ : Addr).add 2) (.int .i64 x13) fun vw29 =>
    St vw29 ((⟨w.heap.size, 0, none⟩ : Addr).add 3) (.int .i64 x14) fun vw30 =>
    St vw30 ((⟨w.heap.size, 0, none⟩ : Addr).add 4) (.int .i64 x15) fun vw31 =>
    St vw31 ((⟨w.heap.size, 0, none⟩ : Addr).add 5) (.int .i64 x16) fun vw32 =>
    St vw32 ((⟨w.heap.size, 0, none⟩ : Addr).add 6) (.int .i64 x17) fun vw33 =>
    St vw33 ((⟨w.heap.size, 0, none⟩ : Addr).add 7) (.int .i64 x18) fun vw34 =>
    St vw34 ((⟨w.heap.size, 0, none⟩ : Addr).add 8) (.int .i64 x19) fun vw35 =>
    St vw35 ((⟨w.heap.size, 0, none⟩ : Addr).add 9) (.int .i64 x20) fun vw36 =>
    St vw36 ((⟨w.heap.size, 0, none⟩ : Addr).add 10) (.int .i64 x21) fun vw37 =>
    St vw37 ((⟨w.heap.size, 0, none⟩ : Addr).add 11) (.int .i64 x22) fun vw38 =>
    St vw38 ((⟨w.heap.size, 0, none⟩ : Addr).add 12) (.int .i64 x23) fun vw39 =>
    St vw39 ((⟨w.heap.size, 0, none⟩ : Addr).add 13) (.int .i64 x24) fun vw40 =>
    St vw40 ((⟨w.heap.size, 0, none⟩ : Addr).add 14) (.int .i64 x25) fun vw41 =>
    St vw41 ((⟨w.heap.size, 0, none⟩ : Addr).add 15) (.int .i64 x26) fun vw42 =>
    Ld vw42 (⟨w.heap.size, 0, none⟩ : Addr) (Value.int .i64) fun (x43 : Int) =>
    Ld vw42 ((⟨w.heap.size, 0, none⟩ : Addr).add 1) (Value.int .i64) fun (x44 : Int) =>
    Ld vw42 ((⟨w.heap.size, 0, none⟩ : Addr).add 2) (Value.int .i64) fun (x45 : Int) =>
    Ld vw42 ((⟨w.heap.size, 0, none⟩ : Addr).add 3) (Value.int .i64) fun (x46 : Int) =>
    Ld vw42 ((⟨w.heap.size, 0, none⟩ : Addr).add 4) (Value.int .i64) fun (x47 : Int) =>
    Ld vw42 ((⟨w.heap.size, 0, none⟩ : Addr).add 5) (Value.int .i64) fun (x48 : Int) =>
    Ld vw42 ((⟨w.heap.size, 0, none⟩ : Addr).add 6) (Value.int .i64) fun (x49 : Int) =>
    Ld vw42 ((⟨w.heap.size, 0, none⟩ : Addr).add 7) (Value.int .i64) fun (x50 : Int) =>
    Ld vw42 ((⟨w.heap.size, 0, none⟩ : Addr).add 8) (Value.int .i64) fun (x51 : Int) =>
    Ld vw42 ((⟨w.heap.size, 0, none⟩ : Addr).add 9) (Value.int .i64) fun (x52 : Int) =>
    Ld vw42 ((⟨w.heap.size, 0, none⟩ : Addr).add 10) (Value.int .i64) fun (x53 : Int) =>
    Ld vw42 ((⟨w.heap.size, 0, none⟩ : Addr).add 11) (Value.int .i64) fun (x54 : Int) =>
    Ld vw42 ((⟨w.heap.size, 0, none⟩ : Addr).add 12) (Value.int .i64) fun (x55 : Int) =>
    Ld vw42 ((⟨w.heap.size, 0, none⟩ : Addr).add 13) (Value.int .i64) fun (x56 : Int) =>
    Ld vw42 ((⟨w.heap.size, 0, none⟩ : Addr).add 14) (Value.int .i64) fun (x57 : Int) =>
    Ld vw42 ((⟨w.heap.size, 0, none⟩ : Addr).add 15) (Value.int .i64) fun (x58 : Int) =>
    R (x43, x44, x45, x46, x47, x48, x49, x50, x51, x52, x53, x54, x55, x56, x57, x58) vw42)
/-- foliant/code.counted -/
def S91 (lens1 : Slc) (w : World) (R : (Int × Int × Int × Int × Int × Int × Int × Int × Int × Int × Int × Int × Int × Int × Int × Int) → World → Prop) : Prop :=
  Nw w (.cells #[.int .i64 0, .int .i64 0, .int .i64 0, .int .i64 0, .int .i64 0, .int .i64 0, .int .i64 0, .int .i64 0, .int .i64 0, .int .i64 0, .int .i64 0, .int .i64 0, .int .i64 0, .int .i64 0, .int .i64 0, .int .i64 0] 136) fun vw2 =>
  Nw vw2 (.cells #[.int .i64 0, .int .i64 0, .int .i64 0, .int .i64 0, .int .i64 0, .int .i64 0, .int .i64 0, .int .i64 0, .int .i64 0, .int .i64 0, .int .i64 0, .int .i64 0, .int .i64 0, .int .i64 0, .int .i64 0, .int .i64 0] 136) fun vw3 =>
  Lp (σ := Int) (S91L1 w lens1 vw2 R) 0 vw3
def pl91 : Plan := (.seq (.reg .seq) (.seq (.reg .seq) (.seq (.seq (.reg .seq) (.block (.loop [(8, (.one (.int .i64)))] [2, 3, 6, 7] (.seq (.reg .seq) (.seq (.cond .leaf .leaf) (.seq (.block (.seq (.reg .seq) (.seq (.reg .seq) (.cond (.reg .seq) .leaf)))) (.reg .seq))))))) (.seq (.reg .seq) .leaf))))
set_option maxRecDepth 100000 in
theorem T91 (lens1 : Slc) (w : World) (R : (Int × Int × Int × Int × Int × Int × Int × Int × Int × Int × Int × Int × Int × Int × Int × Int) → World → Prop) (h : S91 lens1 w R) : C91 lens1 w R := by
  have e : fnT Tryz.prog ⟨FF, MAY, (fun _ _ => False)⟩ pl91 Tryz.f91 [Slc.v lens1] w [(.agg [(.int .i64), (.int .i64), (.int .i64), (.int .i64), (.int .i64), (.int .i64), (.int .i64), (.int .i64), (.int .i64), (.int .i64), (.int .i64), (.int .i64), (.int .i64), (.int .i64), (.int .i64), (.int .i64)])] (fun s w => R s w) = S91 lens1 w R := by kernel_rfl
  exact (fn_calls okF okM Tryz.func91 (by kernel_rfl) (by kernel_rfl) (e.mpr h)).mono fun _ _ ⟨s, he, hR⟩ => ⟨s, he, hR⟩

def S92L1 (w : World) (vw2 : World) (vw3 : World) (R : (Int × Int × Int × Int × Int × Int × Int × Int × Int × Int × Int × Int × Int × Int × Int × Int) → World → Prop) (I7 : Int → World → Prop) (s5 : Int) (vw6 : World) : Prop :=
  Br (decide (s5 < 15)) (0 ≤ s5 ∧ s5 < (16 : Nat) ∧ Ld vw6.drew ((⟨vw3.heap.size, 0, none⟩ : Addr).add ((s5).toNat * 1)) (Value.int .i64) fun (x8 : Int) =>
    0 ≤ s5 ∧ s5 < (16 : Nat) ∧ Ld vw6.drew ((⟨w.heap.size, 0, none⟩ : Addr).add ((s5).toNat * 1)) (Value.int .i64) fun (x9 : Int) =>
    0 ≤ (IntKind.i64.wrap (s5 + 1)) ∧ (IntKind.i64.wrap (s5 + 1)) < (16 : Nat) ∧ St vw6.drew ((⟨vw3.heap.size, 0, none⟩ : Addr).add ((IntKind.i64.wrap (s5 + 1)).toNat * 1)) (.int .i64 (IntKind.i64.wrap (2 * (IntKind.i64.wrap (x8 + x9))))) fun vw10 =>
    I7 (IntKind.i64.wrap (s5 + 1)) vw10) (Ld vw6 (⟨vw3.heap.size, 0, none⟩ : Addr) (Value.int .i64) fun (x11 : Int) =>
    Ld vw6 ((⟨vw3.heap.size, 0, none⟩ : Addr).add 1) (Value.int .i64) fun (x12 : Int) =>
    Ld vw6 ((⟨vw3.heap.size, 0, none⟩ : Addr).add 2) (Value.int .i64) fun (x13 : Int) =>
    Ld vw6 ((⟨vw3.heap.size, 0, none⟩ : Addr).add 3) (Value.int .i64) fun (x14 : Int) =>
    Ld vw6 ((⟨vw3.heap.size, 0, none⟩ : Addr).add 4) (Value.int .i64) fun (x15 : Int) =>
    Ld vw6 ((⟨vw3.heap.size, 0, none⟩ : Addr).add 5) (Value.int .i64) fun (x16 : Int) =>
    Ld vw6 ((⟨vw3.heap.size, 0, none⟩ : Addr).add 6) (Value.int .i64) fun (x17 : Int) =>
    Ld vw6 ((⟨vw3.heap.size, 0, none⟩ : Addr).add 7) (Value.int .i64) fun (x18 : Int) =>
    Ld vw6 ((⟨vw3.heap.size, 0, none⟩ : Addr).add 8) (Value.int .i64) fun (x19 : Int) =>
    Ld vw6 ((⟨vw3.heap.size, 0, none⟩ : Addr).add 9) (Value.int .i64) fun (x20 : Int) =>
    Ld vw6 ((⟨vw3.heap.size, 0, none⟩ : Addr).add 10) (Value.int .i64) fun (x21 : Int) =>
    Ld vw6 ((⟨vw3.heap.size, 0, none⟩ : Addr).add 11) (Value.int .i64) fun (x22 : Int) =>
    Ld vw6 ((⟨vw3.heap.size, 0, none⟩ : Addr).add 12) (Value.int .i64) fun (x23 : Int) =>
    Ld vw6 ((⟨vw3.heap.size, 0, none⟩ : Addr).add 13) (Value.int .i64) fun (x24 : Int) =>
    Ld vw6 ((⟨vw3.heap.size, 0, none⟩ : Addr).add 14) (Value.int .i64) fun (x25 : Int) =>
    Ld vw6 ((⟨vw3.heap.size, 0, none⟩ : Addr).add 15) (Value.int .i64) fun (x26 : Int) =>
    St vw6 (⟨vw2.heap.size, 0, none⟩ : Addr) (.int .i64 x11) fun vw27 =>
    St vw27 ((⟨vw2.heap.size, 0, none⟩ : Addr).add 1) (.int .i64 x12) fun vw28 =>
    St vw28 ((⟨vw2.heap.size, 0, none⟩ : Addr).add 2) (.int .i64 x13) fun vw29 =>
    St vw29 ((⟨vw2.heap.size, 0, none⟩ : Addr).add 3) (.int .i64 x14) fun vw30 =>
    St vw30 ((⟨vw2.heap.size, 0, none⟩ : Addr).add 4) (.int .i64 x15) fun vw31 =>
    St vw31 ((⟨vw2.heap.size, 0, none⟩ : Addr).add 5) (.int .i64 x16) fun vw32 =>
    St vw32 ((⟨vw2.heap.size, 0, none⟩ : Addr).add 6) (.int .i64 x17) fun vw33 =>
    St vw33 ((⟨vw2.heap.size, 0, none⟩ : Addr).add 7) (.int .i64 x18) fun vw34 =>
    St vw34 ((⟨vw2.heap.size, 0, none⟩ : Addr).add 8) (.int .i64 x19) fun vw35 =>
    St vw35 ((⟨vw2.heap.size, 0, none⟩ : Addr).add 9) (.int .i64 x20) fun vw36 =>
    St vw36 ((⟨vw2.heap.size, 0, none⟩ : Addr).add 10) (.int .i64 x21) fun vw37 =>
    St vw37 ((⟨vw2.heap.size, 0, none⟩ : Addr).add 11) (.int .i64 x22) fun vw38 =>
    St vw38 ((⟨vw2.heap.size, 0, none⟩ : Addr).add 12) (.int .i64 x23) fun vw39 =>
    St vw39 ((⟨vw2.heap.size, 0, none⟩ : Addr).add 13) (.int .i64 x24) fun vw40 =>
    St vw40 ((⟨vw2.heap.size, 0, none⟩ : Addr).add 14) (.int .i64 x25) fun vw41 =>
    St vw41 ((⟨vw2.heap.size, 0, none⟩ : Addr).add 15) (.int .i64 x26) fun vw42 =>
    Ld vw42 (⟨vw2.heap.size, 0, none⟩ : Addr) (Value.int .i64) fun (x43 : Int) =>
    Ld vw42 ((⟨vw2.heap.size, 0, none⟩ : Addr).add 1) (Value.int .i64) fun (x44 : Int) =>
    Ld vw42 ((⟨vw2.heap.size, 0, none⟩ : Addr).add 2) (Value.int .i64) fun (x45 : Int) =>
    Ld vw42 ((⟨vw2.heap.size, 0, none⟩ : Addr).add 3) (Value.int .i64) fun (x46 : Int) =>
    Ld vw42 ((⟨vw2.heap.size, 0, none⟩ : Addr).add 4) (Value.int .i64) fun (x47 : Int) =>
    Ld vw42 ((⟨vw2.heap.size, 0, none⟩ : Addr).add 5) (Value.int .i64) fun (x48 : Int) =>
    Ld vw42 ((⟨vw2.heap.size, 0, none⟩ : Addr).add 6) (Value.int .i64) fun (x49 : Int) =>
    Ld vw42 ((⟨vw2.heap.size, 0, none⟩ : Addr).add 7) (Value.int .i64) fun (x50 : Int) =>
    Ld vw42 ((⟨vw2.heap.size, 0, none⟩ : Addr).add 8) (Value.int .i64) fun (x51 : Int) =>
    Ld vw42 ((⟨vw2.heap.size, 0, none⟩ : Addr).add 9) (Value.int .i64) fun (x52 : Int) =>
    Ld vw42 ((⟨vw2.heap.size, 0, none⟩ : Addr).add 10) (Value.int .i64) fun (x53 : Int) =>
    Ld vw42 ((⟨vw2.heap.size, 0, none⟩ : Addr).add 11) (Value.int .i64) fun (x54 : Int) =>
    Ld vw42 ((⟨vw2.heap.size, 0, none⟩ : Addr).add 12) (Value.int .i64) fun (x55 : Int) =>
    Ld vw42 ((⟨vw2.heap.size, 0, none⟩ : Addr).add 13) (Value.int .i64) fun (x56 : Int) =>
    Ld vw42 ((⟨vw2.heap.size, 0, none⟩ : Addr).add 14) (Value.int .i64) fun (x57 : Int) =>
    Ld vw42 ((⟨vw2.heap.size, 0, none⟩ : Addr).add 15) (Value.int .i64) fun (x58 : Int) =>
    R (x43, x44, x45, x46, x47, x48, x49, x50, x51, x52, x53, x54, x55, x56, x57, x58) vw42)
/-- foliant/code.firsts -/
def S92 (n1 : Int × Int × Int × Int × Int × Int × Int × Int × Int × Int × Int × Int × Int × Int × Int × Int) (w : World) (R : (Int × Int × Int × Int × Int × Int × Int × Int × Int × Int × Int × Int × Int × Int × Int × Int) → World → Prop) : Prop :=
  Nw w (.cells #[.int .i64 (n1.1), .int .i64 (n1.2.1), .int .i64 (n1.2.2.1), .int .i64 (n1.2.2.2.1), .int .i64 (n1.2.2.2.2.1), .int .i64 (n1.2.2.2.2.2.1), .int .i64 (n1.2.2.2.2.2.2.1), .int .i64 (n1.2.2.2.2.2.2.2.1), .int .i64 (n1.2.2.2.2.2.2.2.2.1), .int .i64 (n1.2.2.2.2.2.2.2.2.2.1), .int .i64 (n1.2.2.2.2.2.2.2.2.2.2.1), .int .i64 (n1.2.2.2.2.2.2.2.2.2.2.2.1), .int .i64 (n1.2.2.2.2.2.2.2.2.2.2.2.2.1), .int .i64 (n1.2.2.2.2.2.2.2.2.2.2.2.2.2.1), .int .i64 (n1.2.2.2.2.2.2.2.2.2.2.2.2.2.2.1), .int .i64 (n1.2.2.2.2.2.2.2.2.2.2.2.2.2.2.2)] 136) fun vw2 =>
  Nw vw2 (.cells #[.int .i64 0, .int .i64 0, .int .i64 0, .int .i64 0, .int .i64 0, .int .i64 0, .int .i64 0, .int .i64 0, .int .i64 0, .int .i64 0, .int .i64 0, .int .i64 0, .int .i64 0, .int .i64 0, .int .i64 0, .int .i64 0] 136) fun vw3 =>
  Nw vw3 (.cells #[.int .i64 0, .int .i64 0, .int .i64 0, .int .i64 0, .int .i64 0, .int .i64 0, .int .i64 0, .int .i64 0, .int .i64 0, .int .i64 0, .int .i64 0, .int .i64 0, .int .i64 0, .int .i64 0, .int .i64 0, .int .i64 0] 136) fun vw4 =>
  Lp (σ := Int) (S92L1 w vw2 vw3 R) 1 vw4
def pl92 : Plan := (.seq (.reg .seq) (.seq (.reg .seq) (.seq (.seq (.reg .seq) (.block (.loop [(4, (.one (.int .i64)))] [1, 2, 3] (.seq (.seq (.reg .seq) (.cond .leaf .leaf)) (.seq (.block (.reg (.tail 11))) (.reg .seq)))))) (.seq (.reg .seq) .leaf))))
set_option maxRecDepth 100000 in
theorem T92 (n1 : Int × Int × Int × Int × Int × Int × Int × Int × Int × Int × Int × Int × Int × Int × Int × Int) (w : World) (R : (Int × Int × Int × Int × Int × Int × Int × Int × Int × Int × Int × Int × Int × Int × Int × Int) → World → Prop) (h : S92 n1 w R) : C92 (n1.1, n1.2.1, n1.2.2.1, n1.2.2.2.1, n1.2.2.2.2.1, n1.2.2.2.2.2.1, n1.2.2.2.2.2.2.1, n1.2.2.2.2.2.2.2.1, n1.2.2.2.2.2.2.2.2.1, n1.2.2.2.2.2.2.2.2.2.1, n1.2.2.2.2.2.2.2.2.2.2.1, n1.2.2.2.2.2.2.2.2.2.2.2.1, n1.2.2.2.2.2.2.2.2.2.2.2.2.1, n1.2.2.2.2.2.2.2.2.2.2.2.2.2.1, n1.2.2.2.2.2.2.2.2.2.2.2.2.2.2.1, n1.2.2.2.2.2.2.2.2.2.2.2.2.2.2.2) w R := by
  have e : fnT Tryz.prog ⟨FF, MAY, (fun _ _ => False)⟩ pl92 Tryz.f92 [.agg #[.int .i64 (n1.1), .int .i64 (n1.2.1), .int .i64 (n1.2.2.1), .int .i64 (n1.2.2.2.1), .int .i64 (n1.2.2.2.2.1), .int .i64 (n1.2.2.2.2.2.1), .int .i64 (n1.2.2.2.2.2.2.1), .int .i64 (n1.2.2.2.2.2.2.2.1), .int .i64 (n1.2.2.2.2.2.2.2.2.1), .int .i64 (n1.2.2.2.2.2.2.2.2.2.1), .int .i64 (n1.2.2.2.2.2.2.2.2.2.2.1), .int .i64 (n1.2.2.2.2.2.2.2.2.2.2.2.1), .int .i64 (n1.2.2.2.2.2.2.2.2.2.2.2.2.1), .int .i64 (n1.2.2.2.2.2.2.2.2.2.2.2.2.2.1), .int .i64 (n1.2.2.2.2.2.2.2.2.2.2.2.2.2.2.1), .int .i64 (n1.2.2.2.2.2.2.2.2.2.2.2.2.2.2.2)]] w [(.agg [(.int .i64), (.int .i64), (.int .i64), (.int .i64), (.int .i64), (.int .i64), (.int .i64), (.int .i64), (.int .i64), (.int .i64), (.int .i64), (.int .i64), (.int .i64), (.int .i64), (.int .i64), (.int .i64)])] (fun s w => R s w) = S92 n1 w R := by kernel_rfl
  exact (fn_calls okF okM Tryz.func92 (by kernel_rfl) (by kernel_rfl) (e.mpr h)).mono fun _ _ ⟨s, he, hR⟩ => ⟨s, he, hR⟩

def S111L1 (vw13 : World) (R : Int → World → Prop) (I39 : (Int × Int × Int) → World → Prop) (s37 : Int × Int × Int) (vw38 : World) : Prop :=
  Br (decide (s37.2.2 ≤ 15)) (0 ≤ s37.2.2 ∧ s37.2.2 < (16 : Nat) ∧ Ld vw38 ((⟨vw13.heap.size, 0, none⟩ : Addr).add ((s37.2.2).toNat * 1)) (Value.int .i64) fun (x40 : Int) =>
    0 ≤ (IntKind.i64.wrap (15 - s37.2.2)) ∧ Lt (IntKind.i64.wrap (s37.1 + (IntKind.i64.wrap (x40 * 2 ^ (min (IntKind.i64.wrap (15 - s37.2.2)).toNat 64))))) fun (x41 : Int) =>
    0 ≤ s37.2.2 ∧ s37.2.2 < (16 : Nat) ∧ Ld vw38 ((⟨vw13.heap.size, 0, none⟩ : Addr).add ((s37.2.2).toNat * 1)) (Value.int .i64) fun (x42 : Int) =>
    I39 (x41, IntKind.i64.wrap (s37.2.1 + x42), IntKind.i64.wrap (s37.2.2 + 1)) vw38) (Br (s37.1 == 32768) (R 0 vw38) (Br (s37.2.1 == 0) (R 0 vw38) (Br (s37.2.1 == 1) (Ld vw38 ((⟨vw13.heap.size, 0, none⟩ : Addr).add 1) (Value.int .i64) fun (x43 : Int) =>
          Br (x43 == 1) (R 0 vw38) (R 13 vw38)) (R 13 vw38))))
def S111L2 (lens1 : Slc) (R : Int → World → Prop) (I9 : Int → World → Prop) (s7 : Int) (vw8 : World) : Prop :=
  Br (decide (s7 < ((lens1.len : Nat) : Int))) (0 ≤ s7 ∧ s7 < (lens1.len : Nat) ∧ Nn lens1.p fun a10 =>
    Ld vw8 (a10.add ((s7).toNat * 1)) (Value.int .i64) fun (x11 : Int) =>
    Br (decide (x11 < 0)) (R 1 vw8) (Br (decide (x11 > 15)) (R 1 vw8) (I9 (IntKind.i64.wrap (s7 + 1)) vw8))) (C91 lens1 vw8 fun r12 vw13 =>
      Nw vw13 (.cells #[.int .i64 0, .int .i64 0, .int .i64 0, .int .i64 0, .int .i64 0, .int .i64 0, .int .i64 0, .int .i64 0, .int .i64 0, .int .i64 0, .int .i64 0, .int .i64 0, .int .i64 0, .int .i64 0, .int .i64 0, .int .i64 0] 136) fun vw14 =>
      St vw14 (⟨vw13.heap.size, 0, none⟩ : Addr) (.int .i64 (r12.1)) fun vw15 =>
      St vw15 ((⟨vw13.heap.size, 0, none⟩ : Addr).add 1) (.int .i64 (r12.2.1)) fun vw16 =>
      St vw16 ((⟨vw13.heap.size, 0, none⟩ : Addr).add 2) (.int .i64 (r12.2.2.1)) fun vw17 =>
      St vw17 ((⟨vw13.heap.size, 0, none⟩ : Addr).add 3) (.int .i64 (r12.2.2.2.1)) fun vw18 =>
      St vw18 ((⟨vw13.heap.size, 0, none⟩ : Addr).add 4) (.int .i64 (r12.2.2.2.2.1)) fun vw19 =>
      St vw19 ((⟨vw13.heap.size, 0, none⟩ : Addr).add 5) (.int .i64 (r12.2.2.2.2.2.1)) fun vw20 =>
      St vw20 ((⟨vw13.heap.size, 0, none⟩ : Addr).add 6) (.int .i64 (r12.2.2.2.2.2.2.1)) fun vw21 =>
      St vw21 ((⟨vw13.heap.size, 0, none⟩ : Addr).add 7) (.int .i64 (r12.2.2.2.2.2.2.2.1)) fun vw22 =>
      St vw22 ((⟨vw13.heap.size, 0, none⟩ : Addr).add 8) (.int .i64 (r12.2.2.2.2.2.2.2.2.1)) fun vw23 =>
      St vw23 ((⟨vw13.heap.size, 0, none⟩ : Addr).add 9) (.int .i64 (r12.2.2.2.2.2.2.2.2.2.1)) fun vw24 =>
      St vw24 ((⟨vw13.heap.size, 0, none⟩ : Addr).add 10) (.int .i64 (r12.2.2.2.2.2.2.2.2.2.2.1)) fun vw25 =>
      St vw25 ((⟨vw13.heap.size, 0, none⟩ : Addr).add 11) (.int .i64 (r12.2.2.2.2.2.2.2.2.2.2.2.1)) fun vw26 =>
      St vw26 ((⟨vw13.heap.size, 0, none⟩ : Addr).add 12) (.int .i64 (r12.2.2.2.2.2.2.2.2.2.2.2.2.1)) fun vw27 =>
      St vw27 ((⟨vw13.heap.size, 0, none⟩ : Addr).add 13) (.int .i64 (r12.2.2.2.2.2.2.2.2.2.2.2.2.2.1)) fun vw28 =>
      St vw28 ((⟨vw13.heap.size, 0, none⟩ : Addr).add 14) (.int .i64 (r12.2.2.2.2.2.2.2.2.2.2.2.2.2.2.1)) fun vw29 =>
      St vw29 ((⟨vw13.heap.size, 0, none⟩ : Addr).add 15) (.int .i64 (r12.2.2.2.2.2.2.2.2.2.2.2.2.2.2.2)) fun vw30 =>
      Lp (σ := Int × Int × Int) (S111L1 vw13 R) (0, 0, 1) vw30)
/-- foliant/code.Check -/
def S111 (lens1 : Slc) (w : World) (R : Int → World → Prop) : Prop :=
  Br (decide (((lens1.len : Nat) : Int) > 288)) (R 6 w) (Lp (σ := Int) (S111L2 lens1 R) 0 w)
def pl111 : Plan := (.seq (.reg .seq) (.seq (.seq (.reg .seq) (.cond (.seq (.reg .seq) .leaf) .leaf)) (.seq (.seq (.reg .seq) (.block (.loop [(14, (.one (.int .i64)))] [0, 12, 13] (.seq (.reg .seq) (.seq (.cond .leaf .leaf) (.seq (.block (.seq (.reg .seq) (.seq (.reg .seq) (.cond (.seq (.reg .seq) .leaf) .leaf)))) (.reg .seq))))))) (.seq (.reg .seq) (.seq (.reg .seq) (.seq (.seq (.reg .seq) (.block (.loop [(6, (.one (.int .i64))), (7, (.one (.int .i64))), (8, (.one (.int .i64)))] [5] (.seq (.seq (.reg .seq) (.cond .leaf .leaf)) (.seq (.block (.seq (.reg .seq) (.reg .seq))) (.reg .seq)))))) (.seq (.seq (.reg .seq) (.cond (.seq (.reg .seq) .leaf) .leaf)) (.seq (.reg .seq) .leaf))))))))
set_option maxRecDepth 100000 in
theorem T111 (lens1 : Slc) (w : World) (R : Int → World → Prop) (h : S111 lens1 w R) : C111 lens1 w R := by
  have e : fnT Tryz.prog ⟨FF, MAY, (fun _ _ => False)⟩ pl111 Tryz.f111 [Slc.v lens1] w [(.one (.int .i64))] (fun s w => R s w) = S111 lens1 w R := by kernel_rfl
  exact (fn_calls okF okM Tryz.func111 (by kernel_rfl) (by kernel_rfl) (e.mpr h)).mono fun _ _ ⟨s, he, hR⟩ => ⟨s, he, hR⟩

def S89L1 (lens1 : Slc) (vw9 : World) (x27 : Slc) (R : Slc → Int → World → Prop) (I31 : Int → World → Prop) (s29 : Int) (vw30 : World) : Prop :=
  Br (decide (s29 < ((lens1.len : Nat) : Int))) (0 ≤ s29 ∧ s29 < (lens1.len : Nat) ∧ Nn lens1.p fun a32 =>
    Ld vw30 (a32.add ((s29).toNat * 1)) (Value.int .i64) fun (x33 : Int) =>
    Br (decide (x33 > 0)) (0 ≤ x33 ∧ x33 < (16 : Nat) ∧ Ld vw30 ((⟨vw9.heap.size, 0, none⟩ : Addr).add ((x33).toNat * 1)) (Value.int .i64) fun (x34 : Int) =>
      0 ≤ s29 ∧ s29 < (x27.len : Nat) ∧ Nn x27.p fun a35 =>
      St vw30 (a35.add ((s29).toNat * 1)) (.int .i64 x34) fun vw36 =>
      0 ≤ x33 ∧ x33 < (16 : Nat) ∧ Ld vw36 ((⟨vw9.heap.size, 0, none⟩ : Addr).add ((x33).toNat * 1)) (Value.int .i64) fun (x37 : Int) =>
      0 ≤ x33 ∧ x33 < (16 : Nat) ∧ St vw36 ((⟨vw9.heap.size, 0, none⟩ : Addr).add ((x33).toNat * 1)) (.int .i64 (IntKind.i64.wrap (x37 + 1))) fun vw38 =>
      I31 (IntKind.i64.wrap (s29 + 1)) vw38) (I31 (IntKind.i64.wrap (s29 + 1)) vw30)) (R x27 0 vw30)
/-- foliant/code.Codes -/
def S89 (lens1 : Slc) (w : World) (R : Slc → Int → World → Prop) : Prop :=
  C111 lens1 w fun r4 vw5 =>
    Br (r4 != 0) (R (⟨none, 0, 0⟩ : Slc) r4 vw5) (C91 lens1 vw5 fun r6 vw7 =>
        C92 (r6.1, r6.2.1, r6.2.2.1, r6.2.2.2.1, r6.2.2.2.2.1, r6.2.2.2.2.2.1, r6.2.2.2.2.2.2.1, r6.2.2.2.2.2.2.2.1, r6.2.2.2.2.2.2.2.2.1, r6.2.2.2.2.2.2.2.2.2.1, r6.2.2.2.2.2.2.2.2.2.2.1, r6.2.2.2.2.2.2.2.2.2.2.2.1, r6.2.2.2.2.2.2.2.2.2.2.2.2.1, r6.2.2.2.2.2.2.2.2.2.2.2.2.2.1, r6.2.2.2.2.2.2.2.2.2.2.2.2.2.2.1, r6.2.2.2.2.2.2.2.2.2.2.2.2.2.2.2) vw7 fun r8 vw9 =>
          Nw vw9 (.cells #[.int .i64 0, .int .i64 0, .int .i64 0, .int .i64 0, .int .i64 0, .int .i64 0, .int .i64 0, .int .i64 0, .int .i64 0, .int .i64 0, .int .i64 0, .int .i64 0, .int .i64 0, .int .i64 0, .int .i64 0, .int .i64 0] 136) fun vw10 =>
          St vw10 (⟨vw9.heap.size, 0, none⟩ : Addr) (.int .i64 (r8.1)) fun vw11 =>
          St vw11 ((⟨vw9.heap.size, 0, none⟩ : Addr).add 1) (.int .i64 (r8.2.1)) fun vw12 =>
          St vw12 ((⟨vw9.heap.size, 0, none⟩ : Addr).add 2) (.int .i64 (r8.2.2.1)) fun vw13 =>
          St vw13 ((⟨vw9.heap.size, 0, none⟩ : Addr).add 3) (.int .i64 (r8.2.2.2.1)) fun vw14 =>
          St vw14 ((⟨vw9.heap.size, 0, none⟩ : Addr).add 4) (.int .i64 (r8.2.2.2.2.1)) fun vw15 =>
          St vw15 ((⟨vw9.heap.size, 0, none⟩ : Addr).add 5) (.int .i64 (r8.2.2.2.2.2.1)) fun vw16 =>
          St vw16 ((⟨vw9.heap.size, 0, none⟩ : Addr).add 6) (.int .i64 (r8.2.2.2.2.2.2.1)) fun vw17 =>
          St vw17 ((⟨vw9.heap.size, 0, none⟩ : Addr).add 7) (.int .i64 (r8.2.2.2.2.2.2.2.1)) fun vw18 =>
          St vw18 ((⟨vw9.heap.size, 0, none⟩ : Addr).add 8) (.int .i64 (r8.2.2.2.2.2.2.2.2.1)) fun vw19 =>
          St vw19 ((⟨vw9.heap.size, 0, none⟩ : Addr).add 9) (.int .i64 (r8.2.2.2.2.2.2.2.2.2.1)) fun vw20 =>
          St vw20 ((⟨vw9.heap.size, 0, none⟩ : Addr).add 10) (.int .i64 (r8.2.2.2.2.2.2.2.2.2.2.1)) fun vw21 =>
          St vw21 ((⟨vw9.heap.size, 0, none⟩ : Addr).add 11) (.int .i64 (r8.2.2.2.2.2.2.2.2.2.2.2.1)) fun vw22 =>
          St vw22 ((⟨vw9.heap.size, 0, none⟩ : Addr).add 12) (.int .i64 (r8.2.2.2.2.2.2.2.2.2.2.2.2.1)) fun vw23 =>
          St vw23 ((⟨vw9.heap.size, 0, none⟩ : Addr).add 13) (.int .i64 (r8.2.2.2.2.2.2.2.2.2.2.2.2.2.1)) fun vw24 =>
          St vw24 ((⟨vw9.heap.size, 0, none⟩ : Addr).add 14) (.int .i64 (r8.2.2.2.2.2.2.2.2.2.2.2.2.2.2.1)) fun vw25 =>
          St vw25 ((⟨vw9.heap.size, 0, none⟩ : Addr).add 15) (.int .i64 (r8.2.2.2.2.2.2.2.2.2.2.2.2.2.2.2)) fun vw26 =>
          Rn Tryz.prog (Instr.makeSlice 76 (.int .i64 ((lens1.len : Nat) : Int)) (.int .i64 ((lens1.len : Nat) : Int))) vw26 Slc.v fun (x27 : Slc) vw28 =>
          Lp (σ := Int) (S89L1 lens1 vw9 x27 R) 0 vw28)
def pl89 : Plan := (.seq (.reg .seq) (.seq (.seq (.reg .seq) (.seq (.reg .seq) (.cond (.seq (.reg .seq) .leaf) .leaf))) (.seq (.reg .seq) (.seq (.reg .seq) (.seq (.seq (.reg .seq) (.block (.loop [(22, (.one (.int .i64)))] [5, 6, 20, 21] (.seq (.reg .seq) (.seq (.cond .leaf .leaf) (.seq (.block (.seq (.reg .seq) (.seq (.reg .seq) (.cond (.seq (.reg .seq) (.reg .seq)) .leaf)))) (.reg .seq))))))) (.seq (.reg .seq) .leaf))))))
set_option maxRecDepth 100000 in
theorem T89 (lens1 : Slc) (w : World) (R : Slc → Int → World → Prop) (h : S89 lens1 w R) : C89 lens1 w R := by
  have e : fnT Tryz.prog ⟨FF, MAY, (fun _ _ => False)⟩ pl89 Tryz.f89 [Slc.v lens1] w [(.one .slc), (.one (.int .i64))] (fun s w => R s.1 s.2 w) = S89 lens1 w R := by kernel_rfl
  exact (fn_calls okF okM Tryz.func89 (by kernel_rfl) (by kernel_rfl) (e.mpr h)).mono fun _ _ ⟨s, he, hR⟩ => ⟨s.1, s.2, he, hR⟩

/-- slices.Clone[[]int,int] -/
def S90 (s1 : Slc) (w : World) (R : Slc → World → Prop) : Prop :=
  Br s1.p.isNone (R (⟨none, 0, 0⟩ : Slc) w) (Nw w (.cells #[] 3) fun vw2 =>
    Rn Tryz.prog (Builtin.append_ #[76, 76] 76 #[Slc.v ((⟨some ⟨w.heap.size, 0, none⟩, 0, 0⟩ : Slc)), Slc.v s1]) vw2 Slc.v fun (x3 : Slc) vw4 =>
    R x3 vw4)
def pl90 : Plan := (.seq (.reg .seq) (.seq (.seq (.reg .seq) (.cond (.seq (.reg .seq) .leaf) .leaf)) (.seq (.reg .seq) .leaf)))
set_option maxRecDepth 100000 in
theorem T90 (s1 : Slc) (w : World) (R : Slc → World → Prop) (h : S90 s1 w R) : C90 s1 w R := by
  have e : fnT Tryz.prog ⟨FF, MAY, (fun _ _ => False)⟩ pl90 Tryz.f90 [Slc.v s1] w [(.one .slc)] (fun s w => R s w) = S90 s1 w R := by kernel_rfl
  exact (fn_calls okF okM Tryz.func90 (by kernel_rfl) (by kernel_rfl) (e.mpr h)).mono fun _ _ ⟨s, he, hR⟩ => ⟨s, he, hR⟩

def S60L1 (lens1 : Slc) (vw8 : World) (s46 : Int) (I48 : Int → World → Prop) (I51 : Int → World → Prop) (s49 : Int) (vw50 : World) : Prop :=
  Br (decide (s49 < ((lens1.len : Nat) : Int))) (0 ≤ s49 ∧ s49 < (lens1.len : Nat) ∧ Nn lens1.p fun a52 =>
    Ld vw50 (a52.add ((s49).toNat * 1)) (Value.int .i64) fun (x53 : Int) =>
    Br (x53 == s46) (Nn (some (⟨vw8.heap.size, 0, none⟩ : Addr)) fun a54 =>
      Ld vw50 (a54.add 34) Slc.v fun (x55 : Slc) =>
      Nw vw50 (.cells #[.int .i64 s49] 3) fun vw56 =>
      Rn Tryz.prog (Builtin.append_ #[76, 76] 76 #[Slc.v x55, Slc.v ((⟨some ⟨vw50.heap.size, 0, none⟩, 1, 1⟩ : Slc))]) vw56 Slc.v fun (x57 : Slc) vw58 =>
      Nn (some (⟨vw8.heap.size, 0, none⟩ : Addr)) fun a59 =>
      St vw58 (a59.add 34) (Slc.v x57) fun vw60 =>
      I51 (IntKind.i64.wrap (s49 + 1)) vw60) (I51 (IntKind.i64.wrap (s49 + 1)) vw50)) (I48 (IntKind.i64.wrap (s46 + 1)) vw50)
def S60L2 (lens1 : Slc) (vw8 : World) (R : Option Addr → Int → World → Prop) (I48 : Int → World → Prop) (s46 : Int) (vw47 : World) : Prop :=
  Br (decide (s46 ≤ 15)) (Lp (σ := Int) (S60L1 lens1 vw8 s46 I48) 0 vw47) (R (some (⟨vw8.heap.size, 0, none⟩ : Addr)) 0 vw47)
/-- foliant/code.New -/
def S60 (lens1 : Slc) (w : World) (R : Option Addr → Int → World → Prop) : Prop :=
  C89 lens1 w fun r2 r3 vw4 =>
    Br (r3 != 0) (R none r3 vw4) (C90 lens1 vw4 fun r5 vw6 =>
        C91 lens1 vw6 fun r7 vw8 =>
          Nw vw8 (.cells #[Slc.v r5, Slc.v r2, .int .i64 (r7.1), .int .i64 (r7.2.1), .int .i64 (r7.2.2.1), .int .i64 (r7.2.2.2.1), .int .i64 (r7.2.2.2.2.1), .int .i64 (r7.2.2.2.2.2.1), .int .i64 (r7.2.2.2.2.2.2.1), .int .i64 (r7.2.2.2.2.2.2.2.1), .int .i64 (r7.2.2.2.2.2.2.2.2.1), .int .i64 (r7.2.2.2.2.2.2.2.2.2.1), .int .i64 (r7.2.2.2.2.2.2.2.2.2.2.1), .int .i64 (r7.2.2.2.2.2.2.2.2.2.2.2.1), .int .i64 (r7.2.2.2.2.2.2.2.2.2.2.2.2.1), .int .i64 (r7.2.2.2.2.2.2.2.2.2.2.2.2.2.1), .int .i64 (r7.2.2.2.2.2.2.2.2.2.2.2.2.2.2.1), .int .i64 (r7.2.2.2.2.2.2.2.2.2.2.2.2.2.2.2), .int .i64 0, .int .i64 0, .int .i64 0, .int .i64 0, .int .i64 0, .int .i64 0, .int .i64 0, .int .i64 0, .int .i64 0, .int .i64 0, .int .i64 0, .int .i64 0, .int .i64 0, .int .i64 0, .int .i64 0, .int .i64 0, Slc.v ((⟨none, 0, 0⟩ : Slc))] 139) fun vw9 =>
          Nn (some (⟨vw8.heap.size, 0, none⟩ : Addr)) fun a10 =>
          Ld vw9 (a10.add 2) (Value.int .i64) fun (x11 : Int) =>
          Ld vw9 ((a10.add 2).add 1) (Value.int .i64) fun (x12 : Int) =>
          Ld vw9 ((a10.add 2).add 2) (Value.int .i64) fun (x13 : Int) =>
          Ld vw9 ((a10.add 2).add 3) (Value.int .i64) fun (x14 : Int) =>
          Ld vw9 ((a10.add 2).add 4) (Value.int .i64) fun (x15 : Int) =>
          Ld vw9 ((a10.add 2).add 5) (Value.int .i64) fun (x16 : Int) =>
          Ld vw9 ((a10.add 2).add 6) (Value.int .i64) fun (x17 : Int) =>
          Ld vw9 ((a10.add 2).add 7) (Value.int .i64) fun (x18 : Int) =>
          Ld vw9 ((a10.add 2).add 8) (Value.int .i64) fun (x19 : Int) =>
          Ld vw9 ((a10.add 2).add 9) (Value.int .i64) fun (x20 : Int) =>
          Ld vw9 ((a10.add 2).add 10) (Value.int .i64) fun (x21 : Int) =>
          Ld vw9 ((a10.add 2).add 11) (Value.int .i64) fun (x22 : Int) =>
          Ld vw9 ((a10.add 2).add 12) (Value.int .i64) fun (x23 : Int) =>
          Ld vw9 ((a10.add 2).add 13) (Value.int .i64) fun (x24 : Int) =>
          Ld vw9 ((a10.add 2).add 14) (Value.int .i64) fun (x25 : Int) =>
          Ld vw9 ((a10.add 2).add 15) (Value.int .i64) fun (x26 : Int) =>
          C92 (x11, x12, x13, x14, x15, x16, x17, x18, x19, x20, x21, x22, x23, x24, x25, x26) vw9 fun r27 vw28 =>
            Nn (some (⟨vw8.heap.size, 0, none⟩ : Addr)) fun a29 =>
            St vw28 (a29.add 18) (.int .i64 (r27.1)) fun vw30 =>
            St vw30 ((a29.add 18).add 1) (.int .i64 (r27.2.1)) fun vw31 =>
            St vw31 ((a29.add 18).add 2) (.int .i64 (r27.2.2.1)) fun vw32 =>
            St vw32 ((a29.add 18).add 3) (.int .i64 (r27.2.2.2.1)) fun vw33 =>
            St vw33 ((a29.add 18).add 4) (.int .i64 (r27.2.2.2.2.1)) fun vw34 =>
            St vw34 ((a29.add 18).add 5) (.int .i64 (r27.2.2.2.2.2.1)) fun vw35 =>
            St vw35 ((a29.add 18).add 6) (.int .i64 (r27.2.2.2.2.2.2.1)) fun vw36 =>
            St vw36 ((a29.add 18).add 7) (.int .i64 (r27.2.2.2.2.2.2.2.1)) fun vw37 =>
            St vw37 ((a29.add 18).add 8) (.int .i64 (r27.2.2.2.2.2.2.2.2.1)) fun vw38 =>
            St vw38 ((a29.add 18).add 9) (.int .i64 (r27.2.2.2.2.2.2.2.2.2.1)) fun vw39 =>
            St vw39 ((a29.add 18).add 10) (.int .i64 (r27.2.2.2.2.2.2.2.2.2.2.1)) fun vw40 =>
            St vw40 ((a29.add 18).add 11) (.int .i64 (r27.2.2.2.2.2.2.2.2.2.2.2.1)) fun vw41 =>
            St vw41 ((a29.add 18).add 12) (.int .i64 (r27.2.2.2.2.2.2.2.2.2.2.2.2.1)) fun vw42 =>
            St vw42 ((a29.add 18).add 13) (.int .i64 (r27.2.2.2.2.2.2.2.2.2.2.2.2.2.1)) fun vw43 =>
            St vw43 ((a29.add 18).add 14) (.int .i64 (r27.2.2.2.2.2.2.2.2.2.2.2.2.2.2.1)) fun vw44 =>
            St vw44 ((a29.add 18).add 15) (.int .i64 (r27.2.2.2.2.2.2.2.2.2.2.2.2.2.2.2)) fun vw45 =>
            Lp (σ := Int) (S60L2 lens1 vw8 R) 1 vw45)
def pl60 : Plan := (.seq (.reg .seq) (.seq (.reg .seq) (.seq (.seq (.reg .seq) (.cond (.seq (.reg .seq) .leaf) .leaf)) (.seq (.reg .seq) (.seq (.reg .seq) (.seq (.seq (.reg .seq) (.block (.loop [(7, (.one (.int .i64)))] [0, 6] (.seq (.seq (.reg .seq) (.cond .leaf .leaf)) (.seq (.block (.seq (.reg .seq) (.block (.loop [(39, (.one (.int .i64)))] [0, 6, 7, 37, 38] (.seq (.reg .seq) (.seq (.cond .leaf .leaf) (.seq (.block (.seq (.reg .seq) (.seq (.reg .seq) (.cond (.reg .seq) .leaf)))) (.reg .seq)))))))) (.reg .seq)))))) (.seq (.reg .seq) .leaf)))))))
set_option maxRecDepth 100000 in
theorem T60 (lens1 : Slc) (w : World) (R : Option Addr → Int → World → Prop) (h : S60 lens1 w R) : C60 lens1 w R := by
  have e : fnT Tryz.prog ⟨FF, MAY, (fun _ _ => False)⟩ pl60 Tryz.f60 [Slc.v lens1] w [(.one .ptr), (.one (.int .i64))] (fun s w => R s.1 s.2 w) = S60 lens1 w R := by kernel_rfl
  exact (fn_calls okF okM Tryz.func60 (by kernel_rfl) (by kernel_rfl) (e.mpr h)).mono fun _ _ ⟨s, he, hR⟩ => ⟨s.1, s.2, he, hR⟩

def S129L1 (w : World) (i1 : Int) (each3 : Int) (R : (Int × Int) → World → Prop) (I11 : (Int × Int) → World → Prop) (s9 : Int × Int) (vw10 : World) : Prop :=
  Br (decide (s9.2 < i1)) (each3 ≠ 0 ∧ Lt ((if (IntKind.i64.wrap ((IntKind.i64.wrap (Int.tdiv s9.2 each3)) - 1)) > 0 then (IntKind.i64.wrap ((IntKind.i64.wrap (Int.tdiv s9.2 each3)) - 1)) else 0)) fun (x12 : Int) =>
    0 ≤ x12 ∧ I11 (IntKind.i64.wrap (s9.1 + (IntKind.i64.wrap (1 * 2 ^ (min (x12).toNat 64)))), IntKind.i64.wrap (s9.2 + 1)) vw10) (each3 ≠ 0 ∧ Lt ((if (IntKind.i64.wrap ((IntKind.i64.wrap (Int.tdiv i1 each3)) - 1)) > 0 then (IntKind.i64.wrap ((IntKind.i64.wrap (Int.tdiv i1 each3)) - 1)) else 0)) fun (x13 : Int) =>
    St vw10 (⟨w.heap.size, 0, none⟩ : Addr) (.int .i64 (s9.1)) fun vw14 =>
    St vw14 ((⟨w.heap.size, 0, none⟩ : Addr).add 1) (.int .i64 x13) fun vw15 =>
    Ld vw15 (⟨w.heap.size, 0, none⟩ : Addr) (Value.int .i64) fun (x16 : Int) =>
    Ld vw15 ((⟨w.heap.size, 0, none⟩ : Addr).add 1) (Value.int .i64) fun (x17 : Int) =>
    R (x16, x17) vw15)
/-- foliant/inflate.spread -/
def S129 (i1 : Int) (first2 : Int) (each3 : Int) (w : World) (R : (Int × Int) → World → Prop) : Prop :=
  Nw w (.cells #[.int .i64 0, .int .i64 0] 170) fun vw4 =>
  Lp (σ := Int × Int) (S129L1 w i1 each3 R) (first2, 0) vw4
def pl129 : Plan := (.seq (.reg .seq) (.seq (.seq (.reg .seq) (.block (.loop [(1, (.one (.int .i64))), (9, (.one (.int .i64)))] [0, 2, 6, 8] (.seq (.reg .seq) (.seq (.cond .leaf .leaf) (.seq (.block (.seq (.reg .seq) (.reg .seq))) (.reg .seq))))))) (.seq (.reg .seq) .leaf)))
set_option maxRecDepth 100000 in
theorem T129 (i1 : Int) (first2 : Int) (each3 : Int) (w : World) (R : (Int × Int) → World → Prop) (h : S129 i1 first2 each3 w R) : C129 i1 first2 each3 w R := by
  have e : fnT Tryz.prog ⟨FF, MAY, (fun _ _ => False)⟩ pl129 Tryz.f129 [.int .i64 i1, .int .i64 first2, .int .i64 each3] w [(.agg [(.int .i64), (.int .i64)])] (fun s w => R s w) = S129 i1 first2 each3 w R := by kernel_rfl
  exact (fn_calls okF okM Tryz.func129 (by kernel_rfl) (by kernel_rfl) (e.mpr h)).mono fun _ _ ⟨s, he, hR⟩ => ⟨s, he, hR⟩

/-- foliant/inflate.size -/
def S118 (i1 : Int) (w : World) (R : (Int × Int) → World → Prop) : Prop :=
  Nw w (.cells #[.int .i64 0, .int .i64 0] 170) fun vw2 =>
  Br (i1 == 28) (St vw2 (⟨w.heap.size, 0, none⟩ : Addr) (.int .i64 258) fun vw3 =>
    St vw3 ((⟨w.heap.size, 0, none⟩ : Addr).add 1) (.int .i64 0) fun vw4 =>
    Ld vw4 (⟨w.heap.size, 0, none⟩ : Addr) (Value.int .i64) fun (x5 : Int) =>
    Ld vw4 ((⟨w.heap.size, 0, none⟩ : Addr).add 1) (Value.int .i64) fun (x6 : Int) =>
    R (x5, x6) vw4) (C129 i1 3 4 vw2 fun r7 vw8 =>
      St vw8 (⟨w.heap.size, 0, none⟩ : Addr) (.int .i64 (r7.1)) fun vw9 =>
      St vw9 ((⟨w.heap.size, 0, none⟩ : Addr).add 1) (.int .i64 (r7.2)) fun vw10 =>
      Ld vw10 (⟨w.heap.size, 0, none⟩ : Addr) (Value.int .i64) fun (x11 : Int) =>
      Ld vw10 ((⟨w.heap.size, 0, none⟩ : Addr).add 1) (Value.int .i64) fun (x12 : Int) =>
      R (x11, x12) vw10)
def pl118 : Plan := (.seq (.reg .seq) (.seq (.seq (.reg .seq) (.cond (.seq (.reg .seq) .leaf) .leaf)) (.seq (.reg .seq) .leaf)))
set_option maxRecDepth 100000 in
theorem T118 (i1 : Int) (w : World) (R : (Int × Int) → World → Prop) (h : S118 i1 w R) : C118 i1 w R := by
  have e : fnT Tryz.prog ⟨FF, MAY, (fun _ _ => False)⟩ pl118 Tryz.f118 [.int .i64 i1] w [(.agg [(.int .i64), (.int .i64)])] (fun s w => R s w) = S118 i1 w R := by kernel_rfl
  exact (fn_calls okF okM Tryz.func118 (by kernel_rfl) (by kernel_rfl) (e.mpr h)).mono fun _ _ ⟨s, he, hR⟩ => ⟨s, he, hR⟩

/-- (foliant/inflate.span).told -/
def S128 (x1 : Int × Int) (more2 : Int) (w : World) (R : Int → Int → World → Prop) : Prop :=
  Nw w (.cells #[.int .i64 (x1.1), .int .i64 (x1.2)] 170) fun vw3 =>
  Br (decide (more2 < 0)) (R 0 1 vw3) (Ld vw3 ((⟨w.heap.size, 0, none⟩ : Addr).add 1) (Value.int .i64) fun (x5 : Int) =>
    0 ≤ x5 ∧ Br (decide (more2 ≥ (IntKind.i64.wrap (1 * 2 ^ (min (x5).toNat 64))))) (R 0 1 vw3) (Ld vw3 (⟨w.heap.size, 0, none⟩ : Addr) (Value.int .i64) fun (x6 : Int) =>
      R (IntKind.i64.wrap (x6 + more2)) 0 vw3))
def pl128 : Plan := (.seq (.reg .seq) (.seq (.seq (.reg .seq) (.cond (.seq (.reg .seq) .leaf) .leaf)) (.seq (.reg .seq) .leaf)))
set_option maxRecDepth 100000 in
theorem T128 (x1 : Int × Int) (more2 : Int) (w : World) (R : Int → Int → World → Prop) (h : S128 x1 more2 w R) : C128 (x1.1, x1.2) more2 w R := by
  have e : fnT Tryz.prog ⟨FF, MAY, (fun _ _ => False)⟩ pl128 Tryz.f128 [.agg #[.int .i64 (x1.1), .int .i64 (x1.2)], .int .i64 more2] w [(.one (.int .i64)), (.one (.int .i64))] (fun s w => R s.1 s.2 w) = S128 x1 more2 w R := by kernel_rfl
  exact (fn_calls okF okM Tryz.func128 (by kernel_rfl) (by kernel_rfl) (e.mpr h)).mono fun _ _ ⟨s, he, hR⟩ => ⟨s.1, s.2, he, hR⟩

/-- foliant/inflate.Size -/
def S117 (sign1 : Int) (more2 : Int) (w : World) (R : Int → Int → World → Prop) : Prop :=
  Br (decide (sign1 < 257)) (R 0 1 w) (Br (decide (sign1 > 285)) (R 0 1 w) (C118 (IntKind.i64.wrap (sign1 - 257)) w fun r3 vw4 =>
        C128 (r3.1, r3.2) more2 vw4 fun r5 r6 vw7 =>
          R r5 r6 vw7))
def pl117 : Plan := (.seq (.reg .seq) (.seq (.seq (.reg .seq) (.cond (.seq (.reg .seq) .leaf) .leaf)) (.seq (.reg .seq) .leaf)))
set_option maxRecDepth 100000 in
theorem T117 (sign1 : Int) (more2 : Int) (w : World) (R : Int → Int → World → Prop) (h : S117 sign1 more2 w R) : C117 sign1 more2 w R := by
  have e : fnT Tryz.prog ⟨FF, MAY, (fun _ _ => False)⟩ pl117 Tryz.f117 [.int .i64 sign1, .int .i64 more2] w [(.one (.int .i64)), (.one (.int .i64))] (fun s w => R s.1 s.2 w) = S117 sign1 more2 w R := by kernel_rfl
  exact (fn_calls okF okM Tryz.func117 (by kernel_rfl) (by kernel_rfl) (e.mpr h)).mono fun _ _ ⟨s, he, hR⟩ => ⟨s.1, s.2, he, hR⟩

/-- foliant/inflate.far -/
def S120 (i1 : Int) (w : World) (R : (Int × Int) → World → Prop) : Prop :=
  Nw w (.cells #[.int .i64 0, .int .i64 0] 170) fun vw2 =>
  C129 i1 1 2 vw2 fun r3 vw4 =>
    St vw4 (⟨w.heap.size, 0, none⟩ : Addr) (.int .i64 (r3.1)) fun vw5 =>
    St vw5 ((⟨w.heap.size, 0, none⟩ : Addr).add 1) (.int .i64 (r3.2)) fun vw6 =>
    Ld vw6 (⟨w.heap.size, 0, none⟩ : Addr) (Value.int .i64) fun (x7 : Int) =>
    Ld vw6 ((⟨w.heap.size, 0, none⟩ : Addr).add 1) (Value.int .i64) fun (x8 : Int) =>
    R (x7, x8) vw6
def pl120 : Plan := (.seq (.reg .seq) (.seq (.reg .seq) .leaf))
set_option maxRecDepth 100000 in
theorem T120 (i1 : Int) (w : World) (R : (Int × Int) → World → Prop) (h : S120 i1 w R) : C120 i1 w R := by
  have e : fnT Tryz.prog ⟨FF, MAY, (fun _ _ => False)⟩ pl120 Tryz.f120 [.int .i64 i1] w [(.agg [(.int .i64), (.int .i64)])] (fun s w => R s w) = S120 i1 w R := by kernel_rfl
  exact (fn_calls okF okM Tryz.func120 (by kernel_rfl) (by kernel_rfl) (e.mpr h)).mono fun _ _ ⟨s, he, hR⟩ => ⟨s, he, hR⟩

/-- foliant/inflate.Far -/
def S119 (sign1 : Int) (more2 : Int) (w : World) (R : Int → Int → World → Prop) : Prop :=
  Br (decide (sign1 < 0)) (R 0 1 w) (Br (decide (sign1 > 29)) (R 0 1 w) (C120 sign1 w fun r3 vw4 =>
        C128 (r3.1, r3.2) more2 vw4 fun r5 r6 vw7 =>
          R r5 r6 vw7))
def pl119 : Plan := (.seq (.reg .seq) (.seq (.seq (.reg .seq) (.cond (.seq (.reg .seq) .leaf) .leaf)) (.seq (.reg .seq) .leaf)))
set_option maxRecDepth 100000 in
theorem T119 (sign1 : Int) (more2 : Int) (w : World) (R : Int → Int → World → Prop) (h : S119 sign1 more2 w R) : C119 sign1 more2 w R := by
  have e : fnT Tryz.prog ⟨FF, MAY, (fun _ _ => False)⟩ pl119 Tryz.f119 [.int .i64 sign1, .int .i64 more2] w [(.one (.int .i64)), (.one (.int .i64))] (fun s w => R s.1 s.2 w) = S119 sign1 more2 w R := by kernel_rfl
  exact (fn_calls okF okM Tryz.func119 (by kernel_rfl) (by kernel_rfl) (e.mpr h)).mono fun _ _ ⟨s, he, hR⟩ => ⟨s.1, s.2, he, hR⟩

def S101L1 (t1 : Option Addr) (r2 : Option Addr) (R : Int → Int → World → Prop) (I7 : (Slc × Int × Int) → World → Prop) (s5 : Slc × Int × Int) (vw6 : World) : Prop :=
  Br (decide (((s5.1.len : Nat) : Int) > 0)) (C72 r2 1 vw6 fun r8 r9 vw10 =>
      Br (r9 != 0) (R 0 r9 vw10) (Nn t1 fun a18 =>
        0 ≤ s5.2.2 ∧ s5.2.2 < (16 : Nat) ∧ Ld vw10 ((a18.add 18).add ((s5.2.2).toNat * 1)) (Value.int .i64) fun (x19 : Int) =>
        Nn t1 fun a20 =>
        0 ≤ s5.2.2 ∧ s5.2.2 < (16 : Nat) ∧ Ld vw10 ((a20.add 2).add ((s5.2.2).toNat * 1)) (Value.int .i64) fun (x21 : Int) =>
        Lt (decide ((IntKind.i64.wrap ((ior .i64 (IntKind.i64.wrap (s5.2.1 * 2 ^ 1)) r8) - x19)) < x21)) fun (x22 : Bool) =>
        Br x22 (0 ≤ (IntKind.i64.wrap ((ior .i64 (IntKind.i64.wrap (s5.2.1 * 2 ^ 1)) r8) - x19)) ∧ (IntKind.i64.wrap ((ior .i64 (IntKind.i64.wrap (s5.2.1 * 2 ^ 1)) r8) - x19)) < (s5.1.len : Nat) ∧ Nn s5.1.p fun a23 =>
          Ld vw10 (a23.add ((IntKind.i64.wrap ((ior .i64 (IntKind.i64.wrap (s5.2.1 * 2 ^ 1)) r8) - x19)).toNat * 1)) (Value.int .i64) fun (x24 : Int) =>
          R x24 0 vw10) (Nn t1 fun a25 =>
          0 ≤ s5.2.2 ∧ s5.2.2 < (16 : Nat) ∧ Ld vw10 ((a25.add 2).add ((s5.2.2).toNat * 1)) (Value.int .i64) fun (x26 : Int) =>
          0 ≤ x26 ∧ x26 ≤ ((s5.1.len : Nat) : Int) ∧ I7 (s5.1.cut 1 ((x26).toNat) s5.1.len s5.1.cap, ior .i64 (IntKind.i64.wrap (s5.2.1 * 2 ^ 1)) r8, IntKind.i64.wrap (s5.2.2 + 1)) vw10))) (R 0 13 vw6)
/-- (*foliant/code.Table).Read -/
def S101 (t1 : Option Addr) (r2 : Option Addr) (w : World) (R : Int → Int → World → Prop) : Prop :=
  Br t1.isNone (R 0 1 w) (Br r2.isNone (R 0 1 w) (Nn t1 fun a3 =>
      Ld w (a3.add 34) Slc.v fun (x4 : Slc) =>
      Lp (σ := Slc × Int × Int) (S101L1 t1 r2 R) (x4, 0, 1) w))
def pl101 : Plan := (.seq (.reg .seq) (.seq (.seq (.reg .seq) (.cond (.seq (.reg .seq) .leaf) .leaf)) (.seq (.reg .seq) (.seq (.reg .seq) (.seq (.seq (.reg .seq) (.block (.loop [(6, (.one .slc)), (7, (.one (.int .i64))), (8, (.one (.int .i64)))] [0, 1] (.seq (.seq (.reg .seq) (.cond .leaf .leaf)) (.seq (.block (.seq (.reg .seq) (.seq (.seq (.reg .seq) (.cond (.seq (.reg .seq) .leaf) .leaf)) (.seq (.reg .seq) (.seq (.seq (.reg .seq) (.seq (.reg .seq) (.cond (.seq (.reg .seq) .leaf) .leaf))) (.reg .seq)))))) (.reg .seq)))))) (.seq (.reg .seq) .leaf))))))
set_option maxRecDepth 100000 in
theorem T101 (t1 : Option Addr) (r2 : Option Addr) (w : World) (R : Int → Int → World → Prop) (h : S101 t1 r2 w R) : C101 t1 r2 w R := by
  have e : fnT Tryz.prog ⟨FF, MAY, (fun _ _ => False)⟩ pl101 Tryz.f101 [.pointer t1, .pointer r2] w [(.one (.int .i64)), (.one (.int .i64))] (fun s w => R s.1 s.2 w) = S101 t1 r2 w R := by kernel_rfl
  exact (fn_calls okF okM Tryz.func101 (by kernel_rfl) (by kernel_rfl) (e.mpr h)).mono fun _ _ ⟨s, he, hR⟩ => ⟨s.1, s.2, he, hR⟩

end Go.Proofs.YtjkoafjnmkchdaaGreatDoor

/- Inflate: ints in slices, sizes and distances; both sides. Conditions: none but ranges. -/
namespace Go.Proofs.YtjkoafjnmkchdaaGreatDoor
namespace Inf
open Sh Bit
set_option linter.unusedVariables false
set_option linter.unusedSimpArgs false
set_option maxRecDepth 4000
set_option maxHeartbeats 1000000
theorem Br.t {b : Bool} {A B : Prop} (h : b = true) (k : A) : Br b A B := by rw [h]; exact k
theorem Br.f {b : Bool} {A B : Prop} (h : b = false) (k : B) : Br b A B := by rw [h]; exact k
def ints (l : List Int) : List Value := l.map fun x => .int .i64 x
theorem elI : El Tryz.prog 76 3 1 8 (.int .i64 0) := ⟨by kernel_rfl, by kernel_rfl, by kernel_rfl, by kernel_rfl, rfl⟩
theorem ints_len (l : List Int) : (ints l).length = l.length := by unfold ints; simp
theorem ints_one (l : List Int) : ∀ v ∈ ints l, v.oneCell' = true := by
  intro v hv
  obtain ⟨x, _, rfl⟩ := List.mem_map.1 hv
  rfl
theorem ints_get {l : List Int} {i : Nat} (hi : i < l.length) : (ints l)[i]? = some (.int .i64 (l.getD i 0)) := by
  unfold ints
  rw [List.getElem?_map, List.getElem?_eq_getElem hi, List.getD_eq_getElem?_getD, List.getElem?_eq_getElem hi]
  rfl
theorem ints_set (l : List Int) (i : Nat) (x : Int) : (ints l).set i (.int .i64 x) = ints (l.set i x) := by unfold ints; rw [List.map_set]
theorem ints_app (l m : List Int) : ints (l ++ m) = ints l ++ ints m := by unfold ints; rw [List.map_append]
/-- The ints of a slice. -/
def IV (w : World) (s : Slc) (l : List Int) : Prop := s.len = l.length ∧ VRow w s 1 (ints l)
theorem IV.keep {w w' : World} {s : Slc} {l : List Int} (h : IV w s l) (he : Ext (fun _ => False) w w') : IV w' s l := ⟨h.1, h.2.keep he⟩
theorem IV.keepF {F : Nat → Prop} {w w' : World} {s : Slc} {l : List Int} (h : IV w s l) (he : Ext F w w') (hF : ∀ j, s.own j → ¬ F j) : IV w' s l := ⟨h.1, h.2.keepF he hF⟩
theorem IV.nil (w : World) : IV w ⟨none, 0, 0⟩ [] := ⟨rfl, rfl, fun j v h => by cases h⟩
theorem IV.get {w : World} {s : Slc} {l : List Int} (h : IV w s l) {i : Nat} (hi : i < l.length) : ∃ a, s.p = some a ∧ w.cell? (a.add (i * 1)) = some (.int .i64 (l.getD i 0)) := by
  obtain ⟨a, ha, hc⟩ := h.2.2 i _ (ints_get hi)
  exact ⟨a, ha, by rw [Nat.mul_one]; exact hc⟩
theorem getD_in {l : List Int} {P : Int → Prop} (h : ∀ x ∈ l, P x) {i : Nat} (hi : i < l.length) : P (l.getD i 0) := by
  rw [List.getD_eq_getElem?_getD, List.getElem?_eq_getElem hi]
  exact h _ (List.getElem_mem hi)
attribute [local irreducible] Ld St Nw Nn Lt LdS
/-! ### Sizes and distances -/
def spr (first each : Nat) : Nat → Nat
  | 0 => first
  | k + 1 => spr first each k + 2 ^ (k / each - 1)
theorem spr_L : ∀ k, spr 3 4 k = baseL k
  | 0 => rfl
  | k + 1 => by show spr 3 4 k + _ = baseL k + _; rw [spr_L k]
theorem spr_D : ∀ k, spr 1 2 k = baseD k
  | 0 => rfl
  | k + 1 => by show spr 1 2 k + _ = baseD k + _; rw [spr_D k]
theorem pow14 {k each : Nat} (hk : k ≤ 30) (he : 2 ≤ each) : 2 ^ (k / each - 1) ≤ 16384 := by
  have h1 : k / each ≤ k / 2 := Nat.div_le_div_left he (by omega)
  have : 2 ^ (k / each - 1) ≤ 2 ^ 14 := Nat.pow_le_pow_right (by omega) (by omega)
  omega
theorem spr_bd {first each : Nat} (he : 2 ≤ each) : ∀ k, k ≤ 30 → spr first each k ≤ first + k * 16384
  | 0, _ => by show first ≤ _; omega
  | k + 1, hk => by
    have ih := spr_bd (first := first) he k (by omega)
    have := pow14 (k := k) (by omega) he
    show spr first each k + 2 ^ (k / each - 1) ≤ _
    omega
theorem sh1 {x : Int} {m : Nat} (hx : x = (m : Int)) (hm : m ≤ 30) : IntKind.i64.wrap (1 * 2 ^ (min x.toNat 64)) = ((2 ^ m : Nat) : Int) := by
  subst hx
  rw [Int.toNat_natCast, show min m 64 = m by omega, Int.one_mul]
  have h1 : 2 ^ m ≤ 2 ^ 30 := Nat.pow_le_pow_right (by omega) hm
  have e : ((2 ^ m : Nat) : Int) = 2 ^ m := by simp
  have h0 := two_pow_pos m
  rw [← e]
  exact i64_id (by omega)
theorem more_id {k each : Nat} (hk : k ≤ 30) (he : 2 ≤ each) (h9 : each ≤ 9) : (if IntKind.i64.wrap (IntKind.i64.wrap (Int.tdiv (k : Int) (each : Int)) - 1) > 0 then IntKind.i64.wrap (IntKind.i64.wrap (Int.tdiv (k : Int) (each : Int)) - 1) else 0) = ((k / each - 1 : Nat) : Int) := by
  rw [tdiv_id (by omega)]
  have e : (k : Int) / (each : Int) = ((k / each : Nat) : Int) := by simp
  have h1 : k / each ≤ k := Nat.div_le_self _ _
  have h2 : (0 : Int) ≤ ((k / each : Nat) : Int) := Int.natCast_nonneg _
  rw [e, i64_id (n := ((k / each : Nat) : Int)) (by omega), i64_id (by omega)]
  split <;> omega
theorem c_spread {i first each : Nat} (hi : i ≤ 30) (hf : first ≤ 1000) (he : 2 ≤ each) (h9 : each ≤ 9) (w : World) : C129 (i : Int) (first : Int) (each : Int) w fun r w1 => r = (((spr first each i : Nat) : Int), ((i / each - 1 : Nat) : Int)) ∧ Ext (fun _ => False) w w1 := by
  refine T129 _ _ _ _ _ ?_
  unfold S129
  refine (Hn.start w).nw fun w2 H => ?_
  simp only [List.nil_append] at H
  refine ⟨fun n st w3 => ∃ k : Nat, st = (((spr first each k : Nat) : Int), (k : Int)) ∧ k ≤ i ∧ n = i - k ∧ w3 = w2, i, ⟨0, rfl, by omega, rfl, rfl⟩, ?_⟩
  rintro n st w3 ⟨k, rfl, hk, rfl, rfl⟩
  unfold S129L1
  dsimp only
  refine Br.dec (fun q => ⟨by omega, Lt.of ?_⟩) fun q => ⟨by omega, Lt.of ?_⟩
  · have h1 := spr_bd (first := first) he k (by omega)
    have h2 := pow14 (k := k) (each := each) (by omega) he
    have h3 : (0 : Int) ≤ ((2 ^ (k / each - 1) : Nat) : Int) := Int.natCast_nonneg _
    rw [more_id (by omega) he h9, sh1 rfl (by have : k / each ≤ k := Nat.div_le_self _ _; omega), i64_id (n := (k : Int) + 1) (by omega), i64_id (by omega)]
    exact ⟨by omega, i - (k + 1), by omega, k + 1, by rw [show spr first each (k + 1) = spr first each k + 2 ^ (k / each - 1) by rfl]; simp, by omega, rfl, rfl⟩
  · have hki : k = i := by omega
    subst hki
    rw [more_id (by omega) he h9]
    iterate 2 (refine H.st 0 rfl (by simp) fun _ H => ?_; simp only [List.nil_append, List.cons_append, List.set_cons_zero, List.set_cons_succ, Nat.zero_add] at H)
    iterate 2 refine H.ld 0 rfl rfl ?_
    exact ⟨rfl, H.ext⟩
def toldF (first : Int) (m : Nat) (more : Int) : Int × Int := if more < 0 ∨ 2 ^ m ≤ more then (0, 1) else (first + more, 0)
theorem c_told {first : Int} {m : Nat} (hf : 0 ≤ first ∧ first ≤ 1000000) (hm : m ≤ 30) (more : Int) (w : World) : C128 (first, (m : Int)) more w fun r e w1 => (r, e) = toldF first m more ∧ Ext (fun _ => False) w w1 := by
  refine T128 (first, (m : Int)) _ _ _ ?_
  unfold S128 toldF
  refine (Hn.start w).nw fun w2 H => ?_
  simp only [List.nil_append] at H
  have hp : 2 ^ m ≤ 2 ^ 30 := Nat.pow_le_pow_right (by omega) hm
  have e2 : ((2 ^ m : Nat) : Int) = 2 ^ m := by simp
  refine Br.dec (fun q => ⟨by rw [if_pos (.inl q)], H.ext⟩) fun q => ?_
  iterate 1 refine H.ld 0 rfl rfl ?_
  refine ⟨by omega, ?_⟩
  rw [sh1 rfl hm]
  refine Br.dec (fun q2 => ⟨by rw [if_pos (.inr (by omega))], H.ext⟩) fun q2 => ?_
  iterate 1 refine H.ld 0 rfl rfl ?_
  rw [if_neg (by omega), i64_id (by omega)]
  exact ⟨rfl, H.ext⟩
theorem c_size (k : Nat) (hk : k ≤ 28) (w : World) : C118 (k : Int) w fun r w1 => r = (((firstL k : Nat) : Int), ((moreL k : Nat) : Int)) ∧ Ext (fun _ => False) w w1 := by
  refine T118 _ _ _ ?_
  unfold S118
  refine (Hn.start w).nw fun w2 H => ?_
  simp only [List.nil_append] at H
  refine Br.eq (fun q => ?_) fun q => ?_
  · have : k = 28 := by omega
    subst this
    iterate 2 (refine H.st 0 rfl (by simp) fun _ H => ?_; simp only [List.nil_append, List.cons_append, List.set_cons_zero, List.set_cons_succ, Nat.zero_add] at H)
    iterate 2 refine H.ld 0 rfl rfl ?_
    exact ⟨rfl, H.ext⟩
  · have hne : k ≠ 28 := by omega
    refine (c_spread (i := k) (first := 3) (each := 4) (by omega) (by omega) (by omega) (by omega) _).mono ?_
    rintro r w3 ⟨rfl, he⟩
    have H := H.keep he
    iterate 2 (refine H.st 0 rfl (by simp) fun _ H => ?_; simp only [List.nil_append, List.cons_append, List.set_cons_zero, List.set_cons_succ, Nat.zero_add] at H)
    iterate 2 refine H.ld 0 rfl rfl ?_
    exact ⟨by unfold firstL moreL; rw [if_neg hne, if_neg hne, spr_L], H.ext⟩
theorem c_farS (k : Nat) (hk : k ≤ 29) (w : World) : C120 (k : Int) w fun r w1 => r = (((baseD k : Nat) : Int), ((moreD k : Nat) : Int)) ∧ Ext (fun _ => False) w w1 := by
  refine T120 _ _ _ ?_
  unfold S120
  refine (Hn.start w).nw fun w2 H => ?_
  simp only [List.nil_append] at H
  refine (c_spread (i := k) (first := 1) (each := 2) (by omega) (by omega) (by omega) (by omega) _).mono ?_
  rintro r w3 ⟨rfl, he⟩
  have H := H.keep he
  iterate 2 (refine H.st 0 rfl (by simp) fun _ H => ?_; simp only [List.nil_append, List.cons_append, List.set_cons_zero, List.set_cons_succ, Nat.zero_add] at H)
  iterate 2 refine H.ld 0 rfl rfl ?_
  exact ⟨by unfold moreD; rw [spr_D], H.ext⟩
theorem base_bd {k : Nat} (hk : k ≤ 30) : baseL k ≤ 500000 ∧ baseD k ≤ 500000 ∧ firstL k ≤ 500000 ∧ moreL k ≤ 30 ∧ moreD k ≤ 30 := by
  have h1 := spr_bd (first := 3) (each := 4) (by omega) k hk
  have h2 := spr_bd (first := 1) (each := 2) (by omega) k hk
  rw [spr_L] at h1
  rw [spr_D] at h2
  refine ⟨by omega, by omega, ?_, ?_, ?_⟩
  · unfold firstL; split <;> omega
  · unfold moreL; split <;> omega
  · unfold moreD; omega
theorem c_Size (sign more : Int) (w : World) : C117 sign more w fun r e w1 => (r, e) = sizeF sign more ∧ Ext (fun _ => False) w w1 := by
  refine T117 _ _ _ _ ?_
  unfold S117 sizeF
  refine Br.dec (fun q => ⟨by rw [if_pos (.inl q)], Ext.refl _ _⟩) fun q => Br.dec (fun q2 => ⟨by rw [if_pos (.inr q2)], Ext.refl _ _⟩) fun q2 => ?_
  obtain ⟨k, hk⟩ : ∃ k : Nat, sign - 257 = (k : Int) := ⟨(sign - 257).toNat, by omega⟩
  rw [i64_id (by omega), hk, if_neg (by omega), Int.toNat_natCast]
  refine (c_size k (by omega) w).mono ?_
  rintro r w2 ⟨rfl, he⟩
  obtain ⟨b1, b2, b3, b4, b5⟩ := base_bd (k := k) (by omega)
  refine (c_told (first := (firstL k : Nat)) (m := moreL k) (by omega) b4 more w2).mono ?_
  rintro r e w3 ⟨h, he2⟩
  exact ⟨h, he.tr he2⟩
theorem c_Far (sign more : Int) (w : World) : C119 sign more w fun r e w1 => (r, e) = farF sign more ∧ Ext (fun _ => False) w w1 := by
  refine T119 _ _ _ _ ?_
  unfold S119 farF
  refine Br.dec (fun q => ⟨by rw [if_pos (.inl q)], Ext.refl _ _⟩) fun q => Br.dec (fun q2 => ⟨by rw [if_pos (.inr q2)], Ext.refl _ _⟩) fun q2 => ?_
  obtain ⟨k, rfl⟩ : ∃ k : Nat, sign = (k : Int) := ⟨sign.toNat, by omega⟩
  rw [if_neg (by omega), Int.toNat_natCast]
  refine (c_farS k (by omega) w).mono ?_
  rintro r w2 ⟨rfl, he⟩
  obtain ⟨b1, b2, b3, b4, b5⟩ := base_bd (k := k) (by omega)
  refine (c_told (first := (baseD k : Nat)) (m := moreD k) (by omega) b5 more w2).mono ?_
  rintro r e w3 ⟨h, he2⟩
  exact ⟨h, he.tr he2⟩
/-! ### The reference's -/
theorem u64_id {n : Int} (h : 0 ≤ n ∧ n ≤ 18446744073709551615) : IntKind.u64.wrap n = n := IntWalk.u64_in n h
end Inf
end Go.Proofs.YtjkoafjnmkchdaaGreatDoor

/- Inflate: arrays of 16, what lengths' checks answer, signs of the reference; both sides. Conditions: sizes. -/
namespace Go.Proofs.YtjkoafjnmkchdaaGreatDoor
namespace Inf
open Sh Bit
set_option linter.unusedVariables false
set_option linter.unusedSimpArgs false
set_option maxRecDepth 4000
set_option maxHeartbeats 2000000
abbrev A16 := Int × Int × Int × Int × Int × Int × Int × Int × Int × Int × Int × Int × Int × Int × Int × Int
def arr16 (f : Nat → Int) : A16 := (f 0, f 1, f 2, f 3, f 4, f 5, f 6, f 7, f 8, f 9, f 10, f 11, f 12, f 13, f 14, f 15)
def lst16 (f : Nat → Int) : List Value := [.int .i64 (f 0), .int .i64 (f 1), .int .i64 (f 2), .int .i64 (f 3), .int .i64 (f 4), .int .i64 (f 5), .int .i64 (f 6), .int .i64 (f 7), .int .i64 (f 8), .int .i64 (f 9), .int .i64 (f 10), .int .i64 (f 11), .int .i64 (f 12), .int .i64 (f 13), .int .i64 (f 14), .int .i64 (f 15)]
theorem lst16_map (f : Nat → Int) : lst16 f = (List.range 16).map fun i => .int .i64 (f i) := rfl
theorem lst16_get (f : Nat → Int) {i : Nat} (hi : i < 16) : (lst16 f)[i]? = some (.int .i64 (f i)) := by
  rw [lst16_map, List.getElem?_map, List.getElem?_range hi]
  rfl
def upd (f : Nat → Int) (i : Nat) (x : Int) : Nat → Int := fun j => if j = i then x else f j
theorem lst16_set (f : Nat → Int) {i : Nat} (hi : i < 16) (x : Int) : (lst16 f).set i (.int .i64 x) = lst16 (upd f i x) := by
  apply List.ext_getElem?
  intro j
  rw [List.getElem?_set]
  have hl : (lst16 f).length = 16 := rfl
  by_cases hj : j < 16
  · rw [lst16_get _ hj, lst16_get _ hj]
    by_cases h : i = j
    · subst h
      rw [if_pos rfl, if_pos (by omega)]
      unfold upd
      rw [if_pos rfl]
    · rw [if_neg h]
      unfold upd
      rw [if_neg (fun e => h e.symm)]
  · rw [if_neg (by omega), List.getElem?_eq_none (by omega), List.getElem?_eq_none (by show 16 ≤ j; omega)]
theorem lst16_len (f : Nat → Int) : (lst16 f).length = 16 := rfl
def cf (lens : List Int) (i n : Nat) : Int := if n = 0 then 0 else (cntT lens n i : Int)
theorem cf_step {lens : List Int} {i n : Nat} (h : lens.getD i 0 = (n : Int)) (hn : 0 < n) : upd (cf lens i) n (cf lens i n + 1) = cf lens (i + 1) := by
  funext j
  unfold upd cf
  rw [cntT_succ, h]
  by_cases hj : j = n
  · subst hj
    rw [if_pos rfl, if_neg (by omega), if_neg (by omega), if_pos rfl]
    omega
  · rw [if_neg hj]
    by_cases h0 : j = 0
    · rw [if_pos h0, if_pos h0]
    · rw [if_neg h0, if_neg h0, if_neg (by omega)]
theorem cf_same {lens : List Int} {i : Nat} (h : lens.getD i 0 = 0) : cf lens (i + 1) = cf lens i := by
  funext j
  unfold cf
  rw [cntT_succ, h]
  by_cases h0 : j = 0
  · rw [if_pos h0, if_pos h0]
  · rw [if_neg h0, if_neg h0, if_neg (by omega)]
theorem cf_bd {lens : List Int} {i : Nat} (hi : i ≤ 288) (n : Nat) : 0 ≤ cf lens i n ∧ cf lens i n ≤ 288 := by
  unfold cf
  have := cntT_le lens n i
  split <;> omega
section
variable {w0 w : World} {L : List (Nat × List Value × TypeId)} {b : Nat} {t : TypeId}
theorem st16o {v0 v1 v2 v3 v4 v5 v6 v7 v8 v9 v10 v11 v12 v13 v14 v15 : Value} {zs pre post : List Value} {K : World → Prop} (H : Hn w0 w L) (o i : Nat) (hi : L[i]? = some (b, pre ++ (zs ++ post), t)) (ho : pre.length = o) (hz : zs.length = 16) (k : ∀ w2, Hn w0 w2 (L.set i (b, pre ++ ([v0, v1, v2, v3, v4, v5, v6, v7, v8, v9, v10, v11, v12, v13, v14, v15] ++ post), t)) → K w2) : St w ⟨b, o, none⟩ v0 fun w => St w ⟨b, o + 1, none⟩ v1 fun w => St w ⟨b, o + 2, none⟩ v2 fun w => St w ⟨b, o + 3, none⟩ v3 fun w => St w ⟨b, o + 4, none⟩ v4 fun w => St w ⟨b, o + 5, none⟩ v5 fun w => St w ⟨b, o + 6, none⟩ v6 fun w => St w ⟨b, o + 7, none⟩ v7 fun w => St w ⟨b, o + 8, none⟩ v8 fun w => St w ⟨b, o + 9, none⟩ v9 fun w => St w ⟨b, o + 10, none⟩ v10 fun w => St w ⟨b, o + 11, none⟩ v11 fun w => St w ⟨b, o + 12, none⟩ v12 fun w => St w ⟨b, o + 13, none⟩ v13 fun w => St w ⟨b, o + 14, none⟩ v14 fun w => St w ⟨b, o + 15, none⟩ v15 fun w => K w :=
  Hn.stL [v0, v1, v2, v3, v4, v5, v6, v7, v8, v9, v10, v11, v12, v13, v14, v15] zs pre post o w H hi ho hz k
theorem st16 {v0 v1 v2 v3 v4 v5 v6 v7 v8 v9 v10 v11 v12 v13 v14 v15 : Value} {zs : List Value} {K : World → Prop} (H : Hn w0 w L) (i : Nat) (hi : L[i]? = some (b, zs, t)) (hz : zs.length = 16) (k : ∀ w2, Hn w0 w2 (L.set i (b, [v0, v1, v2, v3, v4, v5, v6, v7, v8, v9, v10, v11, v12, v13, v14, v15], t)) → K w2) : St w ⟨b, 0, none⟩ v0 fun w => St w ⟨b, 1, none⟩ v1 fun w => St w ⟨b, 2, none⟩ v2 fun w => St w ⟨b, 3, none⟩ v3 fun w => St w ⟨b, 4, none⟩ v4 fun w => St w ⟨b, 5, none⟩ v5 fun w => St w ⟨b, 6, none⟩ v6 fun w => St w ⟨b, 7, none⟩ v7 fun w => St w ⟨b, 8, none⟩ v8 fun w => St w ⟨b, 9, none⟩ v9 fun w => St w ⟨b, 10, none⟩ v10 fun w => St w ⟨b, 11, none⟩ v11 fun w => St w ⟨b, 12, none⟩ v12 fun w => St w ⟨b, 13, none⟩ v13 fun w => St w ⟨b, 14, none⟩ v14 fun w => St w ⟨b, 15, none⟩ v15 fun w => K w :=
  Hn.stL [v0, v1, v2, v3, v4, v5, v6, v7, v8, v9, v10, v11, v12, v13, v14, v15] zs [] [] 0 w H (by simpa using hi) rfl hz fun w2 h => k w2 (by simpa using h)
theorem ld16o {f : Nat → Int} {cs : List Value} {K : Int → Int → Int → Int → Int → Int → Int → Int → Int → Int → Int → Int → Int → Int → Int → Int → Prop} (h : Hn w0 w L) (o i : Nat) (hi : L[i]? = some (b, cs, t)) (g : ∀ j, j < 16 → cs[o + j]? = some (.int .i64 (f j))) (k : K (f 0) (f 1) (f 2) (f 3) (f 4) (f 5) (f 6) (f 7) (f 8) (f 9) (f 10) (f 11) (f 12) (f 13) (f 14) (f 15)) : Ld w ⟨b, o, none⟩ (Value.int .i64) fun x0 => Ld w ⟨b, o + 1, none⟩ (Value.int .i64) fun x1 => Ld w ⟨b, o + 2, none⟩ (Value.int .i64) fun x2 => Ld w ⟨b, o + 3, none⟩ (Value.int .i64) fun x3 => Ld w ⟨b, o + 4, none⟩ (Value.int .i64) fun x4 => Ld w ⟨b, o + 5, none⟩ (Value.int .i64) fun x5 => Ld w ⟨b, o + 6, none⟩ (Value.int .i64) fun x6 => Ld w ⟨b, o + 7, none⟩ (Value.int .i64) fun x7 => Ld w ⟨b, o + 8, none⟩ (Value.int .i64) fun x8 => Ld w ⟨b, o + 9, none⟩ (Value.int .i64) fun x9 => Ld w ⟨b, o + 10, none⟩ (Value.int .i64) fun x10 => Ld w ⟨b, o + 11, none⟩ (Value.int .i64) fun x11 => Ld w ⟨b, o + 12, none⟩ (Value.int .i64) fun x12 => Ld w ⟨b, o + 13, none⟩ (Value.int .i64) fun x13 => Ld w ⟨b, o + 14, none⟩ (Value.int .i64) fun x14 => Ld w ⟨b, o + 15, none⟩ (Value.int .i64) fun x15 => K x0 x1 x2 x3 x4 x5 x6 x7 x8 x9 x10 x11 x12 x13 x14 x15 :=
  h.ld i hi (g 0 (by omega)) (h.ld i hi (g 1 (by omega)) (h.ld i hi (g 2 (by omega)) (h.ld i hi (g 3 (by omega)) (h.ld i hi (g 4 (by omega)) (h.ld i hi (g 5 (by omega)) (h.ld i hi (g 6 (by omega)) (h.ld i hi (g 7 (by omega)) (h.ld i hi (g 8 (by omega)) (h.ld i hi (g 9 (by omega)) (h.ld i hi (g 10 (by omega)) (h.ld i hi (g 11 (by omega)) (h.ld i hi (g 12 (by omega)) (h.ld i hi (g 13 (by omega)) (h.ld i hi (g 14 (by omega)) (h.ld i hi (g 15 (by omega)) (k))))))))))))))))
theorem ld16 {f : Nat → Int} {K : Int → Int → Int → Int → Int → Int → Int → Int → Int → Int → Int → Int → Int → Int → Int → Int → Prop} (h : Hn w0 w L) (i : Nat) (hi : L[i]? = some (b, lst16 f, t)) (k : K (f 0) (f 1) (f 2) (f 3) (f 4) (f 5) (f 6) (f 7) (f 8) (f 9) (f 10) (f 11) (f 12) (f 13) (f 14) (f 15)) : Ld w ⟨b, 0, none⟩ (Value.int .i64) fun x0 => Ld w ⟨b, 1, none⟩ (Value.int .i64) fun x1 => Ld w ⟨b, 2, none⟩ (Value.int .i64) fun x2 => Ld w ⟨b, 3, none⟩ (Value.int .i64) fun x3 => Ld w ⟨b, 4, none⟩ (Value.int .i64) fun x4 => Ld w ⟨b, 5, none⟩ (Value.int .i64) fun x5 => Ld w ⟨b, 6, none⟩ (Value.int .i64) fun x6 => Ld w ⟨b, 7, none⟩ (Value.int .i64) fun x7 => Ld w ⟨b, 8, none⟩ (Value.int .i64) fun x8 => Ld w ⟨b, 9, none⟩ (Value.int .i64) fun x9 => Ld w ⟨b, 10, none⟩ (Value.int .i64) fun x10 => Ld w ⟨b, 11, none⟩ (Value.int .i64) fun x11 => Ld w ⟨b, 12, none⟩ (Value.int .i64) fun x12 => Ld w ⟨b, 13, none⟩ (Value.int .i64) fun x13 => Ld w ⟨b, 14, none⟩ (Value.int .i64) fun x14 => Ld w ⟨b, 15, none⟩ (Value.int .i64) fun x15 => K x0 x1 x2 x3 x4 x5 x6 x7 x8 x9 x10 x11 x12 x13 x14 x15 :=
  ld16o h 0 i hi (fun j hj => by rw [Nat.zero_add]; exact lst16_get f hj) k
end

attribute [local irreducible] Ld St Nw Nn Lt LdS
section
variable {w : World} {s : Slc} {lens : List Int}
theorem c_counted (h : IV w s lens) (hk : Lok lens) : C91 s w fun r w1 => r = arr16 (cn lens) ∧ Ext (fun _ => False) w w1 := by
  refine T91 _ _ _ ?_
  unfold S91
  refine (Hn.start w).nw fun w2 H => H.nw fun w3 H => ?_
  simp only [List.nil_append, List.cons_append] at H
  have hlen := hk.len
  refine ⟨fun n st w4 => ∃ i : Nat, st = (i : Int) ∧ i ≤ lens.length ∧ n = lens.length - i ∧ Hn w w4 [(w.heap.size, lst16 fun _ => 0, 136), (w2.heap.size, lst16 (cf lens i), 136)], lens.length, ⟨0, rfl, by omega, rfl, H⟩, ?_⟩
  rintro n st w4 ⟨i, rfl, hi, rfl, H⟩
  unfold S91L1
  rw [h.1]
  refine Br.dec (fun q => ⟨by omega, by omega, ?_⟩) fun q => ?_
  · have hlt : i < lens.length := by omega
    obtain ⟨a, ha, hc⟩ := (h.keep H.ext).get hlt
    rw [ha, Int.toNat_natCast]
    refine Nn.of (Ld.mk hc ?_)
    have hn := hk.nn i
    obtain ⟨m, hm⟩ := Int.eq_ofNat_of_zero_le hn.1
    have hb := cf_bd (lens := lens) (i := i) (by omega) m
    rw [hm]
    refine Br.dec (fun q2 => ⟨by omega, by omega, ?_⟩) fun q2 => ?_
    · simp only [add_lit, Int.toNat_natCast, Nat.mul_one, Nat.zero_add]
      refine H.ld 1 rfl (lst16_get _ (by omega)) ⟨by omega, by omega, ?_⟩
      refine H.st 1 rfl (by rw [lst16_len]; omega) fun w5 H => ?_
      simp only [List.set_cons_zero, List.set_cons_succ] at H
      rw [i64_id (by omega), lst16_set _ (by omega), cf_step hm (by omega)] at H
      exact ⟨lens.length - (i + 1), by omega, i + 1, by rw [i64_id (by omega)]; rfl, by omega, rfl, H⟩
    · refine ⟨lens.length - (i + 1), by omega, i + 1, by rw [i64_id (by omega)]; rfl, by omega, rfl, ?_⟩
      rw [cf_same (by omega)]
      exact H
  · have : i = lens.length := by omega
    subst this
    simp only [add_lit, Nat.zero_add]
    refine ld16 H 1 rfl (st16 H 0 rfl rfl fun w5 H => ?_)
    simp only [List.set_cons_zero, List.set_cons_succ] at H
    refine ld16 (f := cf lens lens.length) H 0 rfl ⟨rfl, H.ext⟩
theorem c_firsts {f : Nat → Int} (hf : ∀ n, 0 ≤ f n ∧ f n ≤ 288) (w : World) : C92 (arr16 f) w fun r w1 => r = arr16 (fs f) ∧ Ext (fun _ => False) w w1 := by
  refine T92 (arr16 f) _ _ ?_
  unfold S92
  refine (Hn.start w).nw fun w2 H => H.nw fun w3 H => H.nw fun w4 H => ?_
  simp only [List.nil_append, List.cons_append] at H
  refine ⟨fun n st w5 => ∃ k : Nat, st = (k : Int) ∧ 1 ≤ k ∧ k ≤ 15 ∧ n = 15 - k ∧ Hn w w5 [(w.heap.size, lst16 f, 136), (w2.heap.size, lst16 fun _ => 0, 136), (w3.heap.size, lst16 fun j => if j ≤ k then fs f j else 0, 136)], 14, ⟨1, rfl, by omega, by omega, rfl, H⟩, ?_⟩
  rintro n st w5 ⟨k, rfl, hk1, hk, rfl, H⟩
  unfold S92L1
  refine Br.dec (fun q => ⟨by omega, by omega, ?_⟩) fun q => ?_
  · have H := H.drew
    have b1 := fs_bd hf k
    have b2 := hf k
    have hp := two_pow_le (show k ≤ 15 by omega)
    have h15 : (2 : Int) ^ 15 = 32768 := by decide
    simp only [add_lit, Int.toNat_natCast, Nat.mul_one, Nat.zero_add]
    refine H.ld 2 rfl (lst16_get _ (by omega)) ⟨by omega, by omega, ?_⟩
    refine H.ld 0 rfl (lst16_get _ (by omega)) ?_
    rw [i64_id (n := (k : Int) + 1) (by omega)]
    refine ⟨by omega, by omega, ?_⟩
    rw [show ((k : Int) + 1).toNat = k + 1 by omega]
    refine H.st 2 rfl (by rw [lst16_len]; omega) fun w6 H => ?_
    simp only [List.set_cons_zero, List.set_cons_succ] at H
    rw [lst16_set _ (by omega), if_pos (Nat.le_refl k), i64_id (n := fs f k + f k) (by omega), i64_id (by omega)] at H
    refine ⟨15 - (k + 1), by omega, k + 1, rfl, by omega, by omega, rfl, ?_⟩
    have e : upd (fun j => if j ≤ k then fs f j else 0) (k + 1) (2 * (fs f k + f k)) = fun j => if j ≤ k + 1 then fs f j else 0 := by
      funext j
      unfold upd
      by_cases hj : j = k + 1
      · subst hj
        rw [if_pos rfl, if_pos (Nat.le_refl _)]
        obtain ⟨m, rfl⟩ : ∃ m, k = m + 1 := ⟨k - 1, by omega⟩
        rfl
      · rw [if_neg hj]
        dsimp only
        by_cases h2 : j ≤ k
        · rw [if_pos h2, if_pos (by omega)]
        · rw [if_neg h2, if_neg (by omega)]
    rw [e] at H
    exact H
  · have : k = 15 := by omega
    subst this
    simp only [add_lit, Nat.zero_add]
    refine ld16 H 2 rfl (st16 H 1 rfl rfl fun w5 H => ?_)
    simp only [List.set_cons_zero, List.set_cons_succ] at H
    refine ld16 (f := fs f) H 1 rfl ⟨rfl, H.ext⟩
theorem kS_bd {lens : List Int} {i : Nat} (hi : i ≤ 288) : ∀ l, l ≤ 15 → 0 ≤ kS lens i l ∧ kS lens i l ≤ l * 9437184 ∧ 0 ≤ uS lens i l ∧ uS lens i l ≤ l * 288
  | 0, _ => ⟨Int.le_refl _, Int.le_refl _, Int.le_refl _, Int.le_refl _⟩
  | l + 1, hl => by
    obtain ⟨a1, a2, a3, a4⟩ := kS_bd (lens := lens) hi l (by omega)
    have hc := cntT_le lens (l + 1) i
    have hp := two_pow_le (show 15 - (l + 1) ≤ 15 by omega)
    have hp0 := two_pow_pos (15 - (l + 1))
    have h15 : (2 : Int) ^ 15 = 32768 := by decide
    have m1 : (cntT lens (l + 1) i : Int) * 2 ^ (15 - (l + 1)) ≤ 288 * 32768 := Int.mul_le_mul (by omega) (by omega) (by omega) (by omega)
    have m2 : 0 ≤ (cntT lens (l + 1) i : Int) * 2 ^ (15 - (l + 1)) := Int.mul_nonneg (by omega) (by omega)
    have e1 : kS lens i (l + 1) = kS lens i l + (cntT lens (l + 1) i : Int) * 2 ^ (15 - (l + 1)) := rfl
    have e2 : uS lens i (l + 1) = uS lens i l + (cntT lens (l + 1) i : Int) := rfl
    rw [e1, e2]
    omega
theorem nn_all (h : ∀ j, j < lens.length → 0 ≤ lens.getD j 0 ∧ lens.getD j 0 ≤ 15) (hl : lens.length ≤ 288) : Lok lens := ⟨hl, fun i => by
  by_cases hi : i < lens.length
  · exact h i hi
  · rw [List.getD_eq_getElem?_getD, List.getElem?_eq_none (by omega)]
    exact ⟨Int.le_refl _, by decide⟩⟩
theorem c_chk (h : IV w s lens) : C111 s w fun r w1 => r = chk lens ∧ Ext (fun _ => False) w w1 := by
  refine T111 _ _ _ ?_
  unfold S111
  rw [h.1]
  refine Br.dec (fun q => ⟨(chk_many (by omega)).symm, Ext.refl _ _⟩) fun q => ?_
  refine ⟨fun n st w4 => ∃ i : Nat, st = (i : Int) ∧ i ≤ lens.length ∧ n = lens.length - i ∧ w4 = w ∧ ∀ j, j < i → 0 ≤ lens.getD j 0 ∧ lens.getD j 0 ≤ 15, lens.length, ⟨0, rfl, by omega, rfl, rfl, fun j hj => by omega⟩, ?_⟩
  rintro n st w ⟨i, rfl, hi, rfl, rfl, hall⟩
  unfold S111L2
  rw [h.1]
  refine Br.dec (fun q1 => ⟨by omega, by omega, ?_⟩) fun q1 => ?_
  · have hlt : i < lens.length := by omega
    obtain ⟨a, ha, hc⟩ := h.get hlt
    rw [ha, Int.toNat_natCast]
    refine Nn.of (Ld.mk hc (Br.dec (fun q2 => ⟨(chk_arg (by omega) (i := i) (by omega)).symm, Ext.refl _ _⟩) fun q2 => Br.dec (fun q3 => ⟨(chk_arg (by omega) (i := i) (by omega)).symm, Ext.refl _ _⟩) fun q3 => ?_))
    refine ⟨lens.length - (i + 1), by omega, i + 1, by rw [i64_id (by omega)]; rfl, by omega, rfl, rfl, fun j hj => ?_⟩
    by_cases hji : j = i
    · subst hji; omega
    · exact hall j (by omega)
  · have : i = lens.length := by omega
    subst this
    have hk := nn_all hall (by omega)
    refine (c_counted h hk).mono ?_
    rintro r w1 ⟨rfl, he⟩
    refine (Hn.start w1).nw fun w2 H => ?_
    simp only [List.nil_append, List.cons_append] at H
    simp only [add_lit, Nat.zero_add]
    refine st16 H 0 rfl rfl fun w3 H => ?_
    simp only [List.set_cons_zero, List.set_cons_succ] at H
    refine ⟨fun n st w4 => ∃ l : Nat, st = (kS lens lens.length l, uS lens lens.length l, ((l + 1 : Nat) : Int)) ∧ l ≤ 15 ∧ n = 15 - l ∧ Hn w1 w4 [(w1.heap.size, lst16 (cn lens), 136)], 15, ⟨0, rfl, by omega, rfl, H⟩, ?_⟩
    rintro n st w4 ⟨l, rfl, hl, rfl, H⟩
    unfold S111L1
    dsimp only
    obtain ⟨a1, a2, a3, a4⟩ := kS_bd (lens := lens) (i := lens.length) (by omega) l (by omega)
    refine Br.dec (fun q4 => ⟨by omega, by omega, ?_⟩) fun q4 => ?_
    · simp only [add_lit, Int.toNat_natCast, Nat.mul_one, Nat.zero_add]
      refine H.ld 0 rfl (lst16_get _ (by omega)) ?_
      obtain ⟨b1, b2, b3, b4⟩ := kS_bd (lens := lens) (i := lens.length) (by omega) (l + 1) (by omega)
      have hc : cn lens (l + 1) = (cntT lens (l + 1) lens.length : Int) := by unfold cn; rw [if_neg (by omega)]; rfl
      have hcl := cntT_le lens (l + 1) lens.length
      have e1 : kS lens lens.length (l + 1) = kS lens lens.length l + (cntT lens (l + 1) lens.length : Int) * 2 ^ (15 - (l + 1)) := rfl
      have e2 : uS lens lens.length (l + 1) = uS lens lens.length l + (cntT lens (l + 1) lens.length : Int) := rfl
      rw [i64_id (n := 15 - ((l + 1 : Nat) : Int)) (by omega), show min (15 - ((l + 1 : Nat) : Int)).toNat 64 = 15 - (l + 1) by omega, hc]
      generalize (cntT lens (l + 1) lens.length : Int) * 2 ^ (15 - (l + 1)) = z at *
      rw [i64_id (n := z) (by omega), i64_id (by omega), ← e1]
      refine ⟨by omega, Lt.of ⟨by omega, by omega, H.ld 0 rfl (lst16_get _ (by omega)) ?_⟩⟩
      rw [hc, i64_id (n := uS lens lens.length l + _) (by omega), ← e2, i64_id (n := ((l + 1 : Nat) : Int) + 1) (by omega)]
      exact ⟨15 - (l + 1), by omega, l + 1, rfl, by omega, rfl, H⟩
    · have : l = 15 := by omega
      subst this
      rw [kS_kr hk, uS_used hk, chk_rest hk]
      obtain ⟨u1, u2, u3, u4, u5, u6⟩ := used_kr hk lens.length
      have e := he.tr H.ext
      refine Br.eq (fun q5 => ⟨by rw [if_pos (.inl q5)], e⟩) fun q5 => Br.eq (fun q6 => ⟨by rw [if_pos (.inr (.inl (u3 q6).1))], e⟩) fun q6 => Br.eq (fun q7 => ?_) fun q7 => ⟨by rw [if_neg (by omega)], e⟩
      iterate 1 refine H.ld 0 rfl rfl ?_
      have hc : cn lens 1 = (cntT lens 1 lens.length : Int) := rfl
      rw [hc]
      have := u4 q7
      refine Br.eq (fun q8 => ⟨by rw [if_pos (.inr (.inr ⟨q7, this.2 (by omega)⟩))], e⟩) fun q8 => ⟨by rw [if_neg (by omega)], e⟩
end
end Inf
end Go.Proofs.YtjkoafjnmkchdaaGreatDoor

/- Inflate: the reference's codes: Check, Bit, place, Sign, Same. Conditions: sizes. -/
namespace Go.Proofs.YtjkoafjnmkchdaaGreatDoor
namespace Inf
open Sh Bit
set_option linter.unusedVariables false
set_option linter.unusedSimpArgs false
set_option maxRecDepth 4000
set_option maxHeartbeats 2000000
theorem idxT_pre (lens : List Int) (n i : Nat) : ∀ d, ∃ r, idxT lens n (i + d) = idxT lens n i ++ r
  | 0 => ⟨[], by simp⟩
  | d + 1 => by
    obtain ⟨r, h⟩ := idxT_pre lens n i d
    rw [show i + (d + 1) = i + d + 1 by omega, idxT_succ]
    split
    · exact ⟨r ++ [i + d], by rw [h, List.append_assoc]⟩
    · exact ⟨r, h⟩
/-- The sign that a place holds. -/
theorem idxs_at {lens : List Int} {n i : Nat} (h : lens.getD i 0 = (n : Int)) (hi : i < lens.length) : (idxs lens n).getD (cntT lens n i) 0 = i ∧ cntT lens n i < cnt lens n := by
  obtain ⟨r, hr⟩ := idxT_pre lens n (i + 1) (lens.length - (i + 1))
  rw [show i + 1 + (lens.length - (i + 1)) = lens.length by omega, idxT_succ, if_pos h] at hr
  have e : idxs lens n = idxT lens n i ++ [i] ++ r := hr
  constructor
  · rw [e, List.append_assoc, List.getD_eq_getElem?_getD]
    unfold cntT
    rw [List.getElem?_append_right (Nat.le_refl _), Nat.sub_self]
    rfl
  · show (idxT lens n i).length < (idxs lens n).length
    rw [e, List.append_assoc, List.length_append, List.length_append]
    simp
    omega
attribute [local irreducible] Ld St Nw Nn Lt LdS
section
variable {w : World} {s : Slc} {lens : List Int}
end
end Inf
end Go.Proofs.YtjkoafjnmkchdaaGreatDoor

/- What the readers of package bit and of its reference do, call by call. Conditions: the reader is not nil, its place lies in its string, the string has at most a million bytes. -/
namespace Go.Proofs.YtjkoafjnmkchdaaGreatDoor
namespace Bit
open Sh
set_option linter.unusedVariables false

/-- A reader of package bit: bit p of s comes next, the order is 'way'. -/
def RdB (w : World) (b : Nat) (s : ByteArray) (p : Nat) (way : Int) : Prop :=
  Blk w b #[.int .i64 way, .int .i64 ((p % 8 : Nat) : Int), .string s, .int .i64 ((p / 8 : Nat) : Int)] 72
abbrev at0 (b : Nat) : Option Addr := some ⟨b, 0, none⟩

section
variable {w : World} {b : Nat} {s : ByteArray} {p : Nat} {way : Int}

theorem c_place (h : RdB w b s p way) (w' : Int) : C121 (at0 b) w' w fun x w1 => x = (if w' = 1 then ((p % 8 : Nat) : Int) else 7 - ((p % 8 : Nat) : Int)) ∧ w1 = w := by
  refine T121 _ _ _ _ ?_
  unfold S121
  by_cases hw : w' = 1
  · simp only [hw, beq_self_eq_true, Br_true]
    exact Nn.of (Ld.of h rfl ⟨rfl, trivial⟩)
  · simp only [hw, if_false, beq_eq_false_iff_ne.2 hw, Br_false]
    exact Nn.of (Ld.of h rfl ⟨i64_id (by omega), trivial⟩)

theorem c_other (h : RdB w b s p way) (w' : Int) : C108 (at0 b) w' w fun x w1 => x = (way != 0 && way != w') ∧ w1 = w := by
  refine T108 _ _ _ _ ?_
  unfold S108
  refine Nn.of (Ld.of h rfl (Br_of (fun e => ?_) fun e => ?_))
  · exact Nn.of (Ld.of h rfl ⟨by simp [e], rfl⟩)
  · exact ⟨by simp [e], rfl⟩

theorem c_left (h : RdB w b s p way) (hp : p ≤ 8 * s.size) (hs : s.size ≤ 1000000) : C115 (at0 b) w fun x w1 => x = ((8 * s.size - p : Nat) : Int) ∧ w1 = w.drew := by
  refine T115 _ _ _ ?_
  unfold S115
  refine Nn.of (Ld.of h.drew rfl (Nn.of (Ld.of h.drew rfl (Nn.of (Ld.of h.drew rfl ⟨?_, rfl⟩)))))
  simp (disch := omega) only [i64_id]
  omega
theorem c_at (h : RdB w b s p way) (hp : p ≤ 8 * s.size) (hs : s.size ≤ 1000000) : C30 (at0 b) w fun x w1 => x = (((p + 7) / 8 : Nat) : Int) ∧ w1 = w := by
  refine T30 _ _ _ ?_
  unfold S30
  refine Nn.of (Ld.of h rfl (Br_of (fun e => ?_) fun e => ?_))
  · have e : (0 : Int) < ((p % 8 : Nat) : Int) := by simpa using e
    refine Nn.of (Ld.of h rfl ⟨?_, rfl⟩)
    rw [i64_id (by omega)]
    omega
  · have e : ¬ (0 : Int) < ((p % 8 : Nat) : Int) := by simpa using e
    refine Nn.of (Ld.of h rfl ⟨?_, rfl⟩)
    omega

theorem bt_of (s : ByteArray) (w' : Int) (p : Nat) : iand .i64 (Int.fdiv (IntKind.i64.wrap (bAt s ((p / 8 : Nat) : Int))) (2 ^ min (if w' = 1 then ((p % 8 : Nat) : Int) else 7 - ((p % 8 : Nat) : Int)).toNat 64)) 1 = bt s w' p := by
  have hb := byt_bd s (p / 8)
  rw [bAt_byt, i64_id (by omega), fdiv_pow]
  have hd := @ediv_pow_bd (byt s (p / 8)) (min (if w' = 1 then ((p % 8 : Nat) : Int) else 7 - ((p % 8 : Nat) : Int)).toNat 64) hb.1
  rw [iand_one hd.1 (by omega)]
  unfold bt
  split
  · rw [show min ((p % 8 : Nat) : Int).toNat 64 = p % 8 by omega]
  · rw [show min (7 - ((p % 8 : Nat) : Int)).toNat 64 = 7 - p % 8 by omega]

theorem c_one (h : RdB w b s p way) (hp : p < 8 * s.size) (hs : s.size ≤ 1000000) (w' : Int) :
    C116 (at0 b) w' w fun x w1 => x = bt s w' p ∧ RdB w1 b s (p + 1) way ∧ Ext (· = b) w w1 := by
  refine T116 _ _ _ _ ?_
  unfold S116
  have hS : ∀ w1, w1 = w.drew → RdB w1 b s p way := fun w1 e => e ▸ h.drew
  refine ⟨fun w1 => w1 = w.drew, rfl, Nn.of (LdS.of hS rfl (Nn.of (LdS.of hS rfl ⟨by omega, by omega, Nn.of ((c_place h.drew w').mono ?_)⟩)))⟩
  rintro x w1 ⟨rfl, rfl⟩
  rw [bt_of]
  have H : Hx w (· = b) w.drew _ := (Hx.one h).drew
  refine ⟨rfl, by split <;> omega, Nn.of (H.ld 0 rfl rfl (Nn.of (H.st 0 rfl (by simp) (.inl rfl) fun w2 H => Nn.of (H.ld 0 rfl rfl (Br_of (fun e => ?_) fun e => ?_)))))⟩
  · rw [i64_id (by omega)] at e
    have e : ((p % 8 : Nat) : Int) + 1 = 8 := by simpa using e
    refine Nn.of (H.st 0 rfl (by simp) (.inl rfl) fun w3 H => Nn.of (H.ld 0 rfl rfl (Nn.of (H.st 0 rfl (by simp) (.inl rfl) fun w4 H => ⟨rfl, ?_, H.ext⟩))))
    have := H.get 0 rfl
    unfold RdB
    rw [show (p + 1) % 8 = 0 by omega, show (p + 1) / 8 = p / 8 + 1 by omega]
    rw [i64_id (n := ((p / 8 : Nat) : Int) + 1) (by omega)] at this
    exact this
  · rw [i64_id (by omega)] at e
    have e : ¬ ((p % 8 : Nat) : Int) + 1 = 8 := by simpa using e
    refine ⟨rfl, ?_, H.ext⟩
    have := H.get 0 rfl
    unfold RdB
    rw [show (p + 1) % 8 = p % 8 + 1 by omega, show (p + 1) / 8 = p / 8 by omega]
    rw [i64_id (n := ((p % 8 : Nat) : Int) + 1) (by omega)] at this
    exact this

/-- What Low and High answer: the value, the error, the new place, the new order. -/
def tkR (s : ByteArray) (p : Nat) (way n w' : Int) : Int × Int × Nat × Int :=
  if n < 0 ∨ 24 < n ∨ (way ≠ 0 ∧ way ≠ w') then (0, 1, p, way)
  else if ((8 * s.size - p : Nat) : Int) < n then (0, 4, p, way)
  else (tk s w' p n.toNat, 0, p + n.toNat, if 0 < n then w' else way)
theorem tkR_arg {n w' : Int} (h : n < 0 ∨ 24 < n ∨ (way ≠ 0 ∧ way ≠ w')) : tkR s p way n w' = (0, 1, p, way) := if_pos h
theorem tkR_end {n w' : Int} (h : ¬ (n < 0 ∨ 24 < n ∨ (way ≠ 0 ∧ way ≠ w'))) (h2 : ((8 * s.size - p : Nat) : Int) < n) : tkR s p way n w' = (0, 4, p, way) := by
  unfold tkR; rw [if_neg h, if_pos h2]
theorem tkR_ok {n w' : Int} (h : ¬ (n < 0 ∨ 24 < n ∨ (way ≠ 0 ∧ way ≠ w'))) (h2 : ¬ ((8 * s.size - p : Nat) : Int) < n) :
    tkR s p way n w' = (tk s w' p n.toNat, 0, p + n.toNat, if 0 < n then w' else way) := by
  unfold tkR; rw [if_neg h, if_neg h2]
theorem c_take (h : RdB w b s p way) (hp : p ≤ 8 * s.size) (hs : s.size ≤ 1000000) (n w' : Int) (hw' : w' = 1 ∨ w' = 2) :
    C100 (at0 b) n w' w fun v e w1 => v = (tkR s p way n w').1 ∧ e = (tkR s p way n w').2.1 ∧ RdB w1 b s (tkR s p way n w').2.2.1 (tkR s p way n w').2.2.2 ∧ Ext (· = b) w w1 := by
  refine T100 _ _ _ _ _ ?_
  unfold S100
  refine Br_of (fun e => ?_) fun _ => ?_
  · cases e
  refine Br_of (fun e => ?_) fun e1 => Br_of (fun e => ?_) fun e2 => Nn.of ((c_other h w').mono ?_)
  · rw [tkR_arg (.inl (by simpa using e))]; exact ⟨rfl, rfl, h, Ext.refl _ _⟩
  · rw [tkR_arg (.inr (.inl (by simpa using e)))]; exact ⟨rfl, rfl, h, Ext.refl _ _⟩
  rintro x w1 ⟨rfl, rfl⟩
  refine Br_of (fun e => ?_) fun e3 => ?_
  · rw [tkR_arg (.inr (.inr (by simpa using e)))]; exact ⟨rfl, rfl, h, Ext.refl _ _⟩
  have h0 : ¬ n < 0 := by simpa using e1
  have h24 : n ≤ 24 := by simpa using e2
  have hw : ¬ (way ≠ 0 ∧ way ≠ w') := by simpa using e3
  have hno : ¬ (n < 0 ∨ 24 < n ∨ (way ≠ 0 ∧ way ≠ w')) := by omega
  refine (c_left h hp hs).mono ?_
  rintro x w2 ⟨rfl, rfl⟩
  refine Br_of (fun e => ?_) fun e4 => ?_
  · rw [tkR_end hno (by simpa using e)]; exact ⟨rfl, rfl, h.drew, (Ext.refl _ _).drew⟩
  have hn : n ≤ ((8 * s.size - p : Nat) : Int) := by simpa using e4
  rw [tkR_ok hno (by omega)]
  obtain ⟨m, rfl⟩ := Int.eq_ofNat_of_zero_le (show 0 ≤ n by omega)
  rw [Int.toNat_natCast]
  refine ⟨fun k st w3 => ∃ i : Nat, i ≤ m ∧ k = m - i ∧ st = (tk s w' p i, (i : Int)) ∧ RdB w3 b s (p + i) way ∧ Ext (· = b) w1 w3, m, ⟨0, by omega, by omega, rfl, h.drew, (Ext.refl _ _).drew⟩, ?_⟩
  rintro k st w3 ⟨i, hi, rfl, rfl, hr, hx⟩
  unfold S100L1
  have hb := tk_bd s w' p i
  have hp24 := two_pow_24 (show i ≤ 24 by omega)
  refine Br_of (fun e => ?_) fun e => ?_
  · have hlt : i < m := by simpa using e
    refine (c_one hr (by omega) hs w').mono ?_
    rintro x w4 ⟨rfl, hr', hx'⟩
    have hbb := bt_bd s w' (p + i)
    have h2 : m - (i + 1) < m - i := by omega
    dsimp only
    rw [i64_id (n := (i : Int) + 1) (by omega)]
    rcases hw' with rfl | rfl
    · simp only [beq_self_eq_true, Br_true]
      have h3 : bt s 1 (p + i) * 2 ^ i ≤ 1 * 2 ^ i := Int.mul_le_mul_of_nonneg_right hbb.2 (Int.le_of_lt (two_pow_pos i))
      have h4 : 0 ≤ bt s 1 (p + i) * 2 ^ i := Int.mul_nonneg hbb.1 (Int.le_of_lt (two_pow_pos i))
      refine ⟨by omega, _, h2, i + 1, by omega, rfl, ?_, hr', hx.tr hx'⟩
      rw [show min ((i : Int)).toNat 64 = i by omega, i64_id (by omega), ior_low hb.1 hb.2 hbb (by omega)]
      simp [tk]
    · simp only [show ((2 : Int) == 1) = false by rfl, Br_false]
      refine ⟨_, h2, i + 1, by omega, rfl, ?_, hr', hx.tr hx'⟩
      rw [show tk s 2 p i * 2 ^ 1 = tk s 2 p i * 2 by simp, i64_id (by omega), ior_high hb.1 (by omega) hbb]
      simp [tk]
  · have hge : i = m := by
      have : ¬ (i : Int) < m := by simpa using e
      omega
    subst hge
    refine Br_of (fun e => ?_) fun e => ?_
    · have hpos : (0 : Int) < i := by simpa using e
      rw [if_pos hpos]
      refine Nn.of ((Hx.one (F := (· = b)) hr).st 0 rfl (by simp) (.inl rfl) fun w5 H => ⟨rfl, rfl, H.get 0 rfl, hx.tr H.ext⟩)
    · have hz : ¬ (0 : Int) < i := by simpa using e
      rw [if_neg hz]
      exact ⟨rfl, rfl, hr, hx⟩

theorem c_low (h : RdB w b s p way) (hp : p ≤ 8 * s.size) (hs : s.size ≤ 1000000) (n : Int) :
    C72 (at0 b) n w fun v e w1 => v = (tkR s p way n 1).1 ∧ e = (tkR s p way n 1).2.1 ∧ RdB w1 b s (tkR s p way n 1).2.2.1 (tkR s p way n 1).2.2.2 ∧ Ext (· = b) w w1 :=
  T72 _ _ _ _ (c_take h hp hs n 1 (.inl rfl))
theorem c_from (w : World) (s : ByteArray) : C28 s w fun r w1 => r = at0 w.heap.size ∧ RdB w1 w.heap.size s 0 0 ∧ Ext (fun _ => False) w w1 := by
  refine T28 _ _ _ ?_
  unfold S28
  exact (Hx.start w (fun _ => False)).nw fun w2 H => ⟨rfl, H.get 0 rfl, H.ext⟩
theorem c_align (h : RdB w b s p way) (hp : p ≤ 8 * s.size) (hs : s.size ≤ 1000000) : C73 (at0 b) w fun w1 => RdB w1 b s ((p + 7) / 8 * 8) 0 ∧ Ext (· = b) w w1 := by
  refine T73 _ _ _ ?_
  unfold S73
  have H : Hx w (· = b) w _ := Hx.one h
  refine Nn.of (H.ld 0 rfl rfl (Br_of (fun e => ?_) fun e => ?_))
  · have e : (0 : Int) < ((p % 8 : Nat) : Int) := by simpa using e
    refine Nn.of (H.ld 0 rfl rfl (Nn.of (H.st 0 rfl (by simp) (.inl rfl) fun w2 H => Nn.of (H.st 0 rfl (by simp) (.inl rfl) fun w3 H => H.st 0 rfl (by simp) (.inl rfl) fun w4 H => ⟨?_, H.ext⟩))))
    have := H.get 0 rfl
    unfold RdB
    rw [show (p + 7) / 8 * 8 % 8 = 0 by omega, show (p + 7) / 8 * 8 / 8 = p / 8 + 1 by omega]
    rw [i64_id (by omega)] at this
    exact this
  · have e : ¬ (0 : Int) < ((p % 8 : Nat) : Int) := by simpa using e
    refine Nn.of (H.st 0 rfl (by simp) (.inl rfl) fun w2 H => H.st 0 rfl (by simp) (.inl rfl) fun w3 H => ⟨?_, H.ext⟩)
    have := H.get 0 rfl
    unfold RdB
    rw [show (p + 7) / 8 * 8 % 8 = 0 by omega, show (p + 7) / 8 * 8 / 8 = p / 8 by omega]
    exact this

/-- What Raw answers. -/
def rawR (s : ByteArray) (p : Nat) (n : Int) : ByteArray × Int × Nat :=
  if n < 0 ∨ p % 8 ≠ 0 then (⟨#[]⟩, 1, p)
  else if ((s.size - p / 8 : Nat) : Int) < n then (⟨#[]⟩, 4, p)
  else (s.extract (p / 8) (p / 8 + n.toNat), 0, p + 8 * n.toNat)
theorem rawR_arg {n : Int} (h : n < 0 ∨ p % 8 ≠ 0) : rawR s p n = (⟨#[]⟩, 1, p) := if_pos h
theorem rawR_end {n : Int} (h : ¬ (n < 0 ∨ p % 8 ≠ 0)) (h2 : ((s.size - p / 8 : Nat) : Int) < n) : rawR s p n = (⟨#[]⟩, 4, p) := by
  unfold rawR; rw [if_neg h, if_pos h2]
theorem rawR_ok {n : Int} (h : ¬ (n < 0 ∨ p % 8 ≠ 0)) (h2 : ¬ ((s.size - p / 8 : Nat) : Int) < n) : rawR s p n = (s.extract (p / 8) (p / 8 + n.toNat), 0, p + 8 * n.toNat) := by
  unfold rawR; rw [if_neg h, if_neg h2]
theorem c_raw (h : RdB w b s p way) (hp : p ≤ 8 * s.size) (hs : s.size ≤ 1000000) (n : Int) :
    C76 (at0 b) n w fun v e w1 => v = (rawR s p n).1 ∧ e = (rawR s p n).2.1 ∧ RdB w1 b s (rawR s p n).2.2 way ∧ Ext (· = b) w w1 := by
  refine T76 _ _ _ _ ?_
  unfold S76
  have H : Hx w (· = b) w _ := Hx.one h
  refine Br_of (fun e => ?_) fun _ => Br_of (fun e => ?_) fun e1 => Nn.of (H.ld 0 rfl rfl (Br_of (fun e => ?_) fun e2 => Nn.of (H.drew.ld 0 rfl rfl (Nn.of (H.drew.ld 0 rfl rfl (Br_of (fun e => ?_) fun e3 => ?_))))))
  · cases e
  · rw [rawR_arg (.inl (by simpa using e))]; exact ⟨rfl, rfl, h, H.ext⟩
  · have e : (0 : Int) < ((p % 8 : Nat) : Int) := by simpa using e
    rw [rawR_arg (.inr (by omega))]; exact ⟨rfl, rfl, h, H.ext⟩
  · have h0 : ¬ n < 0 := by simpa using e1
    have h8 : ¬ (0 : Int) < ((p % 8 : Nat) : Int) := by simpa using e2
    rw [i64_id (by omega)] at e
    have e : (s.size : Int) - ((p / 8 : Nat) : Int) < n := by simpa using e
    rw [rawR_end (by omega) (by omega)]; exact ⟨rfl, rfl, h.drew, H.drew.ext⟩
  · have h0 : ¬ n < 0 := by simpa using e1
    have h8 : ¬ (0 : Int) < ((p % 8 : Nat) : Int) := by simpa using e2
    rw [i64_id (by omega)] at e3
    have e3 : ¬ (s.size : Int) - ((p / 8 : Nat) : Int) < n := by simpa using e3
    rw [rawR_ok (by omega) (by omega)]
    obtain ⟨m, rfl⟩ := Int.eq_ofNat_of_zero_le (show 0 ≤ n by omega)
    rw [Int.toNat_natCast]
    refine Nn.of (H.drew.ld 0 rfl rfl (Nn.of (H.drew.st 0 rfl (by simp) (.inl rfl) fun w2 H => Nn.of (H.drew.ld 0 rfl rfl (Nn.of (H.drew.ld 0 rfl rfl (Nn.of (H.drew.ld 0 rfl rfl ?_))))))))
    rw [i64_id (n := ((p / 8 : Nat) : Int) + (m : Int)) (by omega), i64_id (by omega)]
    refine ⟨by omega, by omega, by omega, by omega, ?_, rfl, ?_, H.drew.ext⟩
    · rw [show (((p / 8 : Nat) : Int) + (m : Int) - (m : Int)).toNat = p / 8 by omega, show (((p / 8 : Nat) : Int) + (m : Int)).toNat = p / 8 + m by omega]
    · have := H.drew.get 0 rfl
      rw [i64_id (n := ((p / 8 : Nat) : Int) + (m : Int)) (by omega)] at this
      unfold RdB
      rw [show (p + 8 * m) % 8 = p % 8 by omega, show (p + 8 * m) / 8 = p / 8 + m by omega]
      exact this

/-! ### The reference's reader -/

end
end Bit
end Go.Proofs.YtjkoafjnmkchdaaGreatDoor

/- Inflate: the program's codes: Codes, Clone, New, Read. Conditions: sizes. -/
namespace Go.Proofs.YtjkoafjnmkchdaaGreatDoor
namespace Inf
open Sh Bit
set_option linter.unusedVariables false
set_option linter.unusedSimpArgs false
set_option maxRecDepth 4000
set_option maxHeartbeats 2000000
def codeL (lens : List Int) (i : Nat) : Int := if 0 < lens.getD i 0 then fs (cn lens) (lens.getD i 0).toNat + (cntT lens (lens.getD i 0).toNat i : Int) else 0
def codesT (lens : List Int) (i : Nat) : List Int := (List.range i).map (codeL lens) ++ List.replicate (lens.length - i) 0
def codes (lens : List Int) : List Int := (List.range lens.length).map (codeL lens)
theorem codesT_len (lens : List Int) {i : Nat} (hi : i ≤ lens.length) : (codesT lens i).length = lens.length := by
  unfold codesT
  simp
  omega
theorem codesT_set (lens : List Int) {i : Nat} (hi : i < lens.length) (x : Int) (hx : x = codeL lens i) : (codesT lens i).set i x = codesT lens (i + 1) := by
  unfold codesT
  rw [List.set_append_right _ _ (by simp), List.length_map, List.length_range, Nat.sub_self, show lens.length - i = (lens.length - (i + 1)) + 1 by omega, List.replicate_succ, List.set_cons_zero, List.range_succ, List.map_append, List.append_assoc, hx]
  rfl
theorem codesT_skip (lens : List Int) {i : Nat} (hi : i < lens.length) (hx : codeL lens i = 0) : codesT lens (i + 1) = codesT lens i := by
  unfold codesT
  rw [show lens.length - i = (lens.length - (i + 1)) + 1 by omega, List.replicate_succ, List.range_succ, List.map_append, List.append_assoc]
  simp [hx]
theorem codesT_end (lens : List Int) : codesT lens lens.length = codes lens := by unfold codesT codes; simp
theorem flat_zero (n : Nat) : (List.replicate n [Value.int .i64 0]).flatten = ints (List.replicate n 0) := by
  unfold ints
  induction n with
  | zero => rfl
  | succ n ih => rw [List.replicate_succ, List.flatten_cons, ih, List.replicate_succ]; rfl
theorem IV.blk {w : World} {g n : Nat} {l : List Int} {t : TypeId} (h : Blk w g (ints l).toArray t) (hn : n = l.length) : IV w ⟨some ⟨g, 0, none⟩, n, n⟩ l := ⟨hn, VRow.of h (by rw [ints_len, hn]; omega)⟩
theorem IV.row {w : World} {s : Slc} {l : List Int} {t : TypeId} (h : Row w s t 1 (ints l)) : IV w s l := by
  refine ⟨?_, h.view⟩
  have := h.1
  rw [ints_len] at this
  omega
theorem row_cap {w : World} {s : Slc} {t : TypeId} {k : Nat} {xs : List Value} (h : Row w s t k xs) : s.len ≤ s.cap := by
  rcases h.2 with h | ⟨g, cur, h1, h2, h3, h4, h5⟩
  · rw [h]; exact Nat.le_refl _
  · exact h3
/-- The tail of a slice. -/
theorem IV.drop {w : World} {s : Slc} {l : List Int} (h : IV w s l) (hc : s.len ≤ s.cap) {d : Nat} (hd : d ≤ l.length) : IV w (s.cut 1 d s.len s.cap) (l.drop d) ∧ (s.cut 1 d s.len s.cap).len ≤ (s.cut 1 d s.len s.cap).cap := by
  have h1 := h.1
  refine ⟨⟨?_, ?_⟩, ?_⟩
  · show s.len - d = _
    rw [List.length_drop]; omega
  · refine ⟨?_, fun j v hj => ?_⟩
    · rw [ints_len, List.length_drop]
      show _ = (s.len - d) * 1
      omega
    · have hjl : j < (l.drop d).length := by
        have := (List.getElem?_eq_some_iff.1 hj).1
        rw [ints_len] at this
        exact this
      rw [List.length_drop] at hjl
      obtain ⟨a, ha, hc'⟩ := h.2.2 (d + j) v (by
        rw [← hj]
        unfold ints
        rw [List.getElem?_map, List.getElem?_map, List.getElem?_drop])
      refine ⟨a.add d, ?_, by rw [add_add']; exact hc'⟩
      show (if s.cap = d then s.p else s.p.map (·.add (d * 1))) = _
      rw [if_neg (by omega), ha, Nat.mul_one]
      rfl
  · show s.len - d ≤ s.cap - d
    omega
theorem cut_own {s : Slc} {d j : Nat} (h : (s.cut 1 d s.len s.cap).own j) : s.own j := by
  obtain ⟨a, ha, rfl⟩ := h
  have ha : (if s.cap = d then s.p else s.p.map (·.add (d * 1))) = some a := ha
  split at ha
  · exact ⟨a, ha, rfl⟩
  · obtain ⟨x, hx, rfl⟩ := Option.map_eq_some_iff.1 ha
    exact ⟨x, hx, (add_block x _).symm⟩
def nx (lens : List Int) (i : Nat) (n : Nat) : Int := fs (cn lens) n + cf lens i n
theorem nx_step {lens : List Int} {i n : Nat} (h : lens.getD i 0 = (n : Int)) (hn : 0 < n) : upd (nx lens i) n (nx lens i n + 1) = nx lens (i + 1) := by
  have hc := cf_step h hn
  funext j
  have hj := congrFun hc j
  unfold upd at hj ⊢
  unfold nx
  by_cases e : j = n
  · subst e
    rw [if_pos rfl] at hj ⊢
    omega
  · rw [if_neg e] at hj ⊢
    rw [hj]
attribute [local irreducible] Ld St Nw Nn Lt LdS
section
variable {w : World} {s : Slc} {lens : List Int}
theorem c_codes (h : IV w s lens) : C89 s w fun r e w1 => e = chk lens ∧ Ext (fun _ => False) w w1 ∧ (chk lens = 0 → IV w1 r (codes lens) ∧ ∀ j, r.own j → w.heap.size ≤ j ∧ j < w1.heap.size) := by
  refine T89 _ _ _ ?_
  unfold S89
  refine (c_chk h).mono ?_
  rintro r w1 ⟨rfl, he1⟩
  refine Br.ne (fun q => ⟨rfl, he1, fun hh => absurd hh q⟩) fun q => ?_
  have hk := chk_lok q
  have hlen := hk.len
  refine (c_counted (h.keep he1) hk).mono ?_
  rintro r w2 ⟨rfl, he2⟩
  refine (c_firsts (f := cn lens) (fun n => cn_bd hlen n) w2).mono ?_
  rintro r w3 ⟨rfl, he3⟩
  have E3 := he1.tr (he2.tr he3)
  refine (Hn.start w3).nw fun w4 H => ?_
  simp only [List.nil_append, add_lit, Nat.zero_add] at H ⊢
  refine st16 H 0 rfl rfl fun w5 H => ?_
  simp only [List.set_cons_zero, List.set_cons_succ] at H
  rw [h.1]
  obtain ⟨w6, hrun, hw6⟩ := elI.make (zs := [.int .i64 0]) rfl w5 lens.length (by omega) (by omega)
  refine ⟨_, w6, hrun, ?_⟩
  have hlt5 := H.lt 0 rfl
  have H : Hn w3 w6 [(w3.heap.size, lst16 (nx lens 0), 136), (w5.heap.size, ints (codesT lens 0), 3)] := by
    have e0 : nx lens 0 = fs (cn lens) := by
      funext j
      unfold nx cf
      split
      · omega
      · show _ + ((0 : Nat) : Int) = _; omega
    have e1 : codesT lens 0 = List.replicate lens.length 0 := by unfold codesT; simp
    rw [e0, e1, hw6, flat_zero]
    exact (H.keep ((Ext.refl _ _).alloc _)).push (Blk.new _ _ _) H.size (by simp; omega)
  refine ⟨fun n st w7 => ∃ i : Nat, st = (i : Int) ∧ i ≤ lens.length ∧ n = lens.length - i ∧ Hn w3 w7 [(w3.heap.size, lst16 (nx lens i), 136), (w5.heap.size, ints (codesT lens i), 3)], lens.length, ⟨0, rfl, by omega, rfl, H⟩, ?_⟩
  rintro n st w7 ⟨i, rfl, hi, rfl, H⟩
  unfold S89L1
  rw [h.1]
  refine Br.dec (fun q1 => ⟨by omega, by omega, ?_⟩) fun q1 => ?_
  · have hlt : i < lens.length := by omega
    obtain ⟨a, ha, hc⟩ := ((h.keep E3).keep H.ext).get hlt
    rw [ha, Int.toNat_natCast]
    have hn := hk.nn i
    obtain ⟨m, hm⟩ := Int.eq_ofNat_of_zero_le hn.1
    have b1 := fs_bd (fun n => cn_bd hlen n) m
    have b2 := cf_bd (lens := lens) (i := i) (by omega) m
    have hp := two_pow_le (show m ≤ 15 by omega)
    have h15 : (2 : Int) ^ 15 = 32768 := by decide
    have hnx : nx lens i m = fs (cn lens) m + cf lens i m := rfl
    refine Nn.of (Ld.mk hc ?_)
    rw [hm]
    refine Br.dec (fun q2 => ⟨by omega, by omega, ?_⟩) fun q2 => ?_
    · have hcode : nx lens i m = codeL lens i := by
        unfold codeL
        rw [if_pos (by omega), hm, Int.toNat_natCast, hnx]
        unfold cf
        rw [if_neg (by omega)]
      simp only [add_lit, Int.toNat_natCast, Nat.mul_one, Nat.zero_add]
      refine H.ld 0 rfl (lst16_get _ (by omega)) ⟨by omega, by omega, Nn.of ?_⟩
      simp only [add_lit, Int.toNat_natCast, Nat.mul_one, Nat.zero_add]
      refine H.st 1 rfl (by rw [ints_len, codesT_len _ hi]; omega) fun w8 H => ?_
      simp only [List.set_cons_zero, List.set_cons_succ] at H
      rw [ints_set, codesT_set _ hlt _ hcode] at H
      refine ⟨by omega, by omega, H.ld 0 rfl (lst16_get _ (by omega)) ⟨by omega, by omega, H.st 0 rfl (by rw [lst16_len]; omega) fun w9 H => ?_⟩⟩
      simp only [List.set_cons_zero, List.set_cons_succ] at H
      rw [i64_id (n := nx lens i m + 1) (by omega), lst16_set _ (by omega), nx_step hm (by omega)] at H
      exact ⟨lens.length - (i + 1), by omega, i + 1, by rw [i64_id (by omega)]; rfl, by omega, rfl, H⟩
    · refine ⟨lens.length - (i + 1), by omega, i + 1, by rw [i64_id (by omega)]; rfl, by omega, rfl, ?_⟩
      have e : nx lens (i + 1) = nx lens i := by
        funext j
        unfold nx
        rw [cf_same (by omega)]
      rw [e, codesT_skip _ hlt (by unfold codeL; rw [if_neg (by omega)])]
      exact H
  · have : i = lens.length := by omega
    subst this
    rw [codesT_end] at H
    refine ⟨q.symm, E3.tr H.ext, fun _ => ⟨IV.blk (H.get 1 rfl) (by unfold codes; simp), fun j hj => ?_⟩⟩
    obtain ⟨a, ha, rfl⟩ := hj
    cases ha
    have := H.ge 1 rfl
    have := E3.size
    have := H.lt 1 rfl
    show w.heap.size ≤ w5.heap.size ∧ w5.heap.size < w7.heap.size
    omega
theorem c_clone (h : IV w s lens) (hlen : lens.length ≤ 100000) : C90 s w fun r w1 => IV w1 r lens ∧ Ext (fun _ => False) w w1 ∧ ∀ j, r.own j → w.heap.size ≤ j ∧ j < w1.heap.size := by
  refine T90 _ _ _ ?_
  unfold S90
  have h1 := h.1
  cases hp : s.p with
  | none =>
    have hl : lens = [] := by
      cases hl : lens with
      | nil => rfl
      | cons x r =>
        obtain ⟨a, ha, _⟩ := h.get (i := 0) (by rw [hl]; simp)
        rw [hp] at ha
        cases ha
    rw [hl]
    refine Br.t rfl ⟨IV.nil _, Ext.refl _ _, fun j hj => ?_⟩
    obtain ⟨a, ha, _⟩ := hj
    cases ha
  | some p =>
    refine Br.f rfl (Nw.of ?_)
    have e1 : Ext (fun _ => False) w (w.alloc (.cells #[] 3)) := (Ext.refl _ _).alloc _
    obtain ⟨s', w', r1, r2, r3, r4, r5⟩ := elI.app (ty := 76) (Row.new w #[] 3 1 0 rfl) (h.keep e1).2 (ints_one lens) (by show (0 + s.len) * 8 ≤ _; omega) (by show 0 + s.len ≤ _; omega)
    refine ⟨s', w', r1, IV.row (l := lens) (by simpa using r2), e1.trans r4 (fun _ h => h) (fun i hi hh => ?_), fun j hj => ?_⟩
    · obtain ⟨a, ha, rfl⟩ := hh
      cases ha
      exact absurd hi (Nat.lt_irrefl _)
    · refine ⟨?_, r2.own_lt hj⟩
      rcases r5 j hj with hh | hh
      · obtain ⟨a, ha, rfl⟩ := hh
        cases ha
        exact Nat.le_refl _
      · have := e1.size; omega
/-- A table's cells. -/
def tc (s1 s2 : Slc) (f g : Nat → Int) (s3 : Slc) : List Value := [Slc.v s1, Slc.v s2] ++ (lst16 f ++ (lst16 g ++ [Slc.v s3]))
theorem tc_n (s1 s2 : Slc) (f g : Nat → Int) (s3 : Slc) {j : Nat} (hj : j < 16) : (tc s1 s2 f g s3)[2 + j]? = some (.int .i64 (f j)) := by
  unfold tc
  rw [List.getElem?_append_right (by simp), show 2 + j - [Slc.v s1, Slc.v s2].length = j by simp, List.getElem?_append_left (by rw [lst16_len]; omega), lst16_get _ hj]
theorem tc_f (s1 s2 : Slc) (f g : Nat → Int) (s3 : Slc) {j : Nat} (hj : j < 16) : (tc s1 s2 f g s3)[18 + j]? = some (.int .i64 (g j)) := by
  unfold tc
  rw [List.getElem?_append_right (by simp; omega), show 18 + j - [Slc.v s1, Slc.v s2].length = 16 + j by simp; omega, List.getElem?_append_right (by rw [lst16_len]; omega), lst16_len, Nat.add_sub_cancel_left, List.getElem?_append_left (by rw [lst16_len]; omega), lst16_get _ hj]
def ordI (l : List Nat) : List Int := l.map Int.ofNat
theorem ordT_len {lens : List Int} (h : lens.length ≤ 288) : ∀ n, (ordT lens n).length ≤ n * 288
  | 0 => Nat.le_refl _
  | n + 1 => by
    have ih := ordT_len h n
    have : (idxs lens (n + 1)).length ≤ lens.length := cntT_le lens (n + 1) lens.length
    show (ordT lens n ++ idxs lens (n + 1)).length ≤ _
    rw [List.length_append]
    omega
/-- A table of a code: its blocks lie between lo and hi. -/
def TB (w : World) (lo hi b : Nat) (lens : List Int) : Prop := ∃ s1 s2 s3 : Slc, Blk w b (tc s1 s2 (cn lens) (fs (cn lens)) s3).toArray 139 ∧ IV w s1 lens ∧ IV w s2 (codes lens) ∧ IV w s3 (ordI (ordT lens 15)) ∧ s3.len ≤ s3.cap ∧
  (lo ≤ b ∧ b < hi) ∧ (∀ j, s1.own j → lo ≤ j ∧ j < hi) ∧ (∀ j, s2.own j → lo ≤ j ∧ j < hi) ∧ ∀ j, s3.own j → lo ≤ j ∧ j < hi
theorem TB.keep {F : Nat → Prop} {w w' : World} {lo hi b : Nat} (h : TB w lo hi b lens) (he : Ext F w w') (hF : ∀ j, lo ≤ j → j < hi → ¬ F j) : TB w' lo hi b lens := by
  obtain ⟨s1, s2, s3, h1, h2, h3, h4, h5, h6, h7, h8, h9⟩ := h
  exact ⟨s1, s2, s3, he.blk h1 (hF _ h6.1 h6.2), h2.keepF he (fun j hj => hF j (h7 j hj).1 (h7 j hj).2), h3.keepF he (fun j hj => hF j (h8 j hj).1 (h8 j hj).2), h4.keepF he (fun j hj => hF j (h9 j hj).1 (h9 j hj).2), h5, h6, h7, h8, h9⟩
theorem own_lt' {w : World} {s : Slc} {l : List Int} (h : IV w s l) (hl : l ≠ []) {j : Nat} (hj : s.own j) : j < w.heap.size := by
  obtain ⟨a, ha, rfl⟩ := hj
  obtain ⟨a2, ha2, hc⟩ := h.get (i := 0) (List.length_pos_iff.2 hl)
  rw [ha] at ha2
  cases ha2
  have := cell_lt' hc
  rw [add_block] at this
  exact this
end
end Inf
end Go.Proofs.YtjkoafjnmkchdaaGreatDoor
