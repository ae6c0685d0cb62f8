/- Code inside a fence: in a round of a range over a function, and where yield is called. Conditions: as for Sh. Written by program (genshy.py) but for the head. -/
import Derived.Test.YtpkadliieplblaaDoorShR
import Derived.RangeFuncNested
import Derived.RangeFuncBound
import Derived.RangeFuncCalls
import Derived.RangeFuncLeaves
import Derived.RangeFuncBox
import Derived.WalkKit
import Derived.OwnWalkIn
import Derived.TacticsInMore
import Derived.LoopNIn
import Derived.LoopIn
import Derived.Sort.LoopGhostIn
namespace Go.Proofs.YtpkadliieplblaaDoor
namespace Sh
open Go.RowKit
set_option linter.unusedVariables false
/-- A call of yield, by a function that is in no round. -/
def Yl (P : Program) (l : Nat) (args : Array Value) (w : World) (K : Bool → World → Prop) : Prop := YieldAt Fence.wide 0 P l args w fun e w' => ∃ b : Bool, e = .returned (.bool b) ∧ K b w'
def ylArg (E : Env) (o : Oper) : Option (Nat × Call) := match o.op with
  | .call c => match c.callee with
    | .value f => match E.rho f with
      | .func (.yield l) a b => match a.toList, b.toList with
        | [], [] => some (l, c)
        | _, _ => none
      | _ => none
    | _ => none
  | _ => none
def noDf : Op → Bool
  | .defer _ => false
  | _ => true
def opsY (P : Program) (F : Fx) (ops : Array Oper) : List Oper → Env → World → (Env → World → Prop) → Prop
  | [], E, w, K => K E w
  | o :: r, E, w, K => match ylArg E o with
    | some _ => gdT ops E o
      (fun E => match ylArg E o with
        | some lc => match hasAll E o.op with
          | true => Yl P lc.1 (lc.2.args.map E.rho) w fun b w' => opsY P F ops r (E.put o.dst (.bool b)) w' K
          | false => False
        | none => False)
      (fun E => opsY P F ops r (E.put o.dst undef) w K)
    | none => match noDf o.op with
      | true => opsT P F false ops [o] E w fun E w => opsY P F ops r E w K
      | false => False
def regY (P : Program) (F : Fx) (m : RMode) (ops : Array Oper) (d : Bool) (E : Env) (w : World) (K : Env → World → Prop) : Prop :=
  match d, m with
  | false, .seq => opsY P F ops ops.toList E w K
  | _, _ => False
def codeY (P : Program) (F : Fx) : Plan → Code → Env → World → (Exit → Env → World → Prop) → Prop
  | .reg m, .region _ ops d, E, w, K => regY P F m ops d E w fun E w => K .normal E w
  | .leaf, .skip, E, w, K => K .normal E w
  | .leaf, .label _, E, w, K => K .normal E w
  | .leaf, .exit id, E, w, K => K (.exit id) E w
  | .leaf, .ret, E, w, K => K .ret E w
  | .seq p q, .seq c d, E, w, K => codeY P F p c E w fun e E w => match e with
    | .normal => codeY P F q d E w K
    | e => K e E w
  | .join live keep p q, .seq c d, E, w, K => match keepOk keep c with
    | true => Join (fun s w => codeY P F q d (stPut live s ++ Env.keep E keep) w K) fun J => codeY P F p c E w fun e E w => match e with
      | .normal => stGet live E fun s => J s w
      | e => K e E w
    | false => False
  | .cond p q, .cond x c d, E, w, K => match E.rho x with
    | .bool b => Br b (codeY P F p c E w K) (codeY P F q d E w K)
    | _ => False
  | .block p, .block id c, E, w, K => codeY P F p c E w fun e E w => match e with
    | .exit i => match Nat.beq i id with
      | true => K .normal E w
      | false => K (.exit i) E w
    | e => K e E w
  | .loop live keep p, .loop c, E, w, K => match keepOk keep c with
    | true => stGet live E fun s0 => Lp (fun R s w => codeY P F p c (stPut live s ++ Env.keep E keep) w fun e E w => match e with
      | .normal => stGet live E fun s => R s w
      | e => K e E w) s0 w
    | false => False
  | _, _, _, _, _ => False


/-- A fence that keeps nothing out: the wide one, and it in a round. -/
structure InF (G : Fence) : Prop where
  fn : ∀ f, G.fn f
  dep : G.depth = none
  call : ∀ {P : Program} {f : FuncId} {args : Array Value} {w : World} {R : Ending → World → Prop}, Calls P f args w R → CallsIn G 0 P f args w R
  round : ∀ {P : Program} {l : Nat} {f : FuncId} {tmps : Array Value} {a b : Code} {w : World} {R : Ending → World → Prop}, RoundIn Fence.wide 0 P l f tmps a b w R → RoundIn G 0 P l f tmps a b w R
theorem InF.wide : InF Fence.wide := ⟨fun _ => trivial, rfl, fun h => callsIn_wide.2 h, fun h => h⟩
theorem InF.inRound (l : Nat) : InF (Fence.wide.inRound l) := ⟨fun _ => trivial, rfl, fun h => CallsIn.inRound l (callsIn_wide.2 h), fun h => h⟩
section
variable {P : Program} {F : Fx} {N : Nat} {G : Fence}
theorem out_uponIn (hG : InF G) {o : Oper} {a : Act} {next : Act → World → Prop} {Q : Exit → Act → World → Prop} {pk : Value → World → Prop} {K : Value → World → Prop} {r : Result Next} (h : OutP P pk K r)
    (hk : ∀ v w', K v w' → next (a.put o.dst v) w') (hp : ∀ v w', pk v w' → Q (.panic (onePanic v)) a w') : o.uponIn G 0 P a next Q r := by
  cases r with
  | halt x w =>
    cases x <;> try exact h.elim
    case panic v => exact hp _ _ h
  | ok n w =>
    cases n <;> try exact h.elim
    case value v => exact hk _ _ h
    case skip => exact hk _ _ h
    case enter f args =>
      rw [Oper.uponIn_enter]
      refine ⟨fun hd => by simp [hG.dep] at hd, hG.call (Calls.mono h fun e w' he => ?_)⟩
      rcases he with ⟨v, rfl, hv⟩ | ⟨v, rfl, hv⟩
      · exact hk _ _ hv
      · exact hp _ _ hv
theorem noDf_spec {o : Oper} (h : noDf o.op = true) : ∀ c, o.op ≠ .defer c := fun c e => by rw [e] at h; cases h
theorem ylArg_spec {E : Env} {o : Oper} {l : Nat} {c : Call} (h : ylArg E o = some (l, c)) : o.op = .call c ∧ ∃ f, c.callee = .value f ∧ E.rho f = .func (.yield l) #[] #[] := by
  unfold ylArg at h
  split at h
  · rename_i c' ho
    split at h
    · rename_i f hf
      split at h
      · rename_i l' a b hr
        split at h
        · rename_i ha hb
          simp only [Option.some.injEq, Prod.mk.injEq] at h
          obtain ⟨rfl, rfl⟩ := h
          refine ⟨ho, f, hf, ?_⟩
          rw [hr]
          obtain ⟨a⟩ := a
          obtain ⟨b⟩ := b
          simp only at ha hb
          subst ha hb
          rfl
        · cases h
      · cases h
    · cases h
  · cases h
theorem run_execYield {E : Env} {o : Oper} {l : Nat} {c : Call} {f : Operand} (ho : o.op = .call c) (hc : c.callee = .value f) (hr : E.rho f = .func (.yield l) #[] #[]) (w : World) :
    (execOp E.rho o).run P w = ((Instr.yield l (c.args.map E.rho)).run P w) := by
  unfold execOp
  simp only [ho, resolve, hc, hr, Deferred.ofValue]
  simp [go_sem, invoke]
theorem opsY_in (hG : InF G) (hF : CallsOk P F.ok) {ops : Array Oper} {Q : Exit → Act → World → Prop} : ∀ (l : List Oper) (E : Env) (w : World) (K : Env → World → Prop) (a : Act),
    opsY P F ops l E w K → Fits N E a → dstOk N l → (∀ E' a' w', K E' w' → Fits N E' a' → frame l a a' → Q .normal a' w') →
    (∀ v a' w', F.pk v w' → Fits N [] a' → frame l a a' → Q (.panic (onePanic v)) a' w') → wpListIn G 0 P ops Q l a w
  | [], E, w, K, a, h, hf, _, hQ, _ => hQ E a w h hf (frame.refl _ _)
  | o :: r, E, w, K, a, h, hf, hd, hQ, hP => by
    have hd' : dstOk N r := fun p hp => hd p (List.mem_cons_of_mem _ hp)
    have ho := hd o List.mem_cons_self
    unfold wpListIn
    unfold opsY at h
    split at h
    · rename_i lc0 hy0
      obtain ⟨l0, c0⟩ := lc0
      have hnd0 := (ylArg_spec hy0).1
      rcases gdT_elim h hf with ⟨hw, E', hf', hy⟩ | ⟨hw, E', hf', hn⟩
      · rw [if_pos hw]
        split at hy
        · rename_i lc hy1
          obtain ⟨l, c⟩ := lc
          obtain ⟨h2, f, h3, h4⟩ := ylArg_spec hy1
          split at hy
          · rename_i hb
            refine ⟨fun f _ => hG.fn f, ?_⟩
            rw [Oper.semAt_plain G _ o (fun c e => by rw [h2] at e; cases e), hasAll_exec hf' hb, run_execYield h2 h3 h4]
            obtain ⟨fn, tmps, asg, body, e1, e2⟩ := hy
            simp only at e1
            rw [e1, Oper.uponIn_round]
            refine ⟨fun hd => by simp [hG.dep] at hd, hG.round (e2.mono fun e w' he => ?_)⟩
            obtain ⟨b, rfl, hK⟩ := he
            exact opsY_in hG hF r _ w' K _ hK (hf'.put ho) hd' (fun E'' a' w'' g1 g2 g3 => hQ _ _ _ g1 g2 (frame_cons g3)) fun v a' w'' g1 g2 g3 => hP v a' w'' g1 g2 (frame_cons g3)
          · exact hy.elim
        · exact hy.elim
      · rw [if_neg (by rw [hw]; simp)]
        exact ⟨fun f _ => hG.fn f, opsY_in hG hF r _ w K _ hn (hf'.put ho) hd' (fun E'' a' w'' h1 h2 h3 => hQ _ _ _ h1 h2 (frame_cons h3)) fun v a' w'' h1 h2 h3 => hP v a' w'' h1 h2 (frame_cons h3)⟩
    · split at h
      · rename_i hnd
        unfold opsT at h
        rcases gdT_elim h hf with ⟨hw, E', hf', hy⟩ | ⟨hw, E', hf', hn⟩
        · rw [if_pos hw]
          refine ⟨fun f _ => hG.fn f, ?_⟩
          rw [Oper.semAt_plain G _ o (noDf_spec hnd)]
          split at hy
          · rename_i hb
            simp only [Bool.and_eq_true] at hb
            rw [hasAll_exec hf' hb.1]
            refine out_uponIn hG (opV_out hF hy) (fun v w' hk => ?_) fun v w' hp => hP v a w' hp hf.some (frame.refl _ _)
            exact opsY_in hG hF r _ w' K _ hk (hf'.put ho) hd' (fun E'' a' w'' h1 h2 h3 => hQ _ _ _ h1 h2 (frame_cons h3)) fun v a' w'' h1 h2 h3 => hP v a' w'' h1 h2 (frame_cons h3)
          · exact hy.elim
        · rw [if_neg (by rw [hw]; simp)]
          exact ⟨fun f _ => hG.fn f, opsY_in hG hF r _ w K _ hn (hf'.put ho) hd' (fun E'' a' w'' h1 h2 h3 => hQ _ _ _ h1 h2 (frame_cons h3)) fun v a' w'' h1 h2 h3 => hP v a' w'' h1 h2 (frame_cons h3)⟩
      · exact h.elim
theorem regY_in (hG : InF G) (hF : CallsOk P F.ok) {m : RMode} {id : Nat} {ops : Array Oper} {d : Bool} {E : Env} {w : World} {K : Env → World → Prop} {a : Act}
    (h : regY P F m ops d E w K) (hf : Fits N E a) (hd : dstOk N ops.toList) :
    (Code.region id ops d).wpIn G 0 P (HQ P F N ops a fun a' w' => ∃ E', K E' w' ∧ Fits N E' a' ∧ frame ops.toList a a') a w := by
  unfold regY at h
  split at h
  · exact wpIn_region_list (opsY_in hG hF _ _ _ _ _ h hf hd (fun E' a' w' h1 h2 h3 => .inl ⟨rfl, E', h1, h2, h3⟩) fun v a' w' h1 h2 h3 => .inr ⟨v, rfl, h1, h2, h3⟩)
  · exact h.elim
theorem codeY_in (hG : InF G) (hF : CallsOk P F.ok) : ∀ (c : Code) (pl : Plan) (E : Env) (w : World) (K : Exit → Env → World → Prop) (a : Act),
    codeY P F pl c E w K → Fits N E a → slotsOk N c = true → c.wpIn G 0 P (Post N F c K a) a w := by
  intro c
  induction c with
  | region id ops d =>
    intro pl E w K a h hf hs
    cases pl <;> try exact (show False from h).elim
    rename_i m
    have hfs : ∀ {a' : Act}, frame ops.toList a a' → Same (.region id ops d) a a' := fun h => ⟨fun t ht => h.1 t (wr_region ht), h.2⟩
    refine wpIn_mono (regY_in hG hF h hf (slotsOk_dst hs)) fun e a' w' hq => ?_
    rcases hq with ⟨he, E', h1, h2, h3⟩ | ⟨v, he, h1, h2, h3⟩
    · exact .inl ⟨E', by subst he; exact h1, h2, hfs h3⟩
    · exact .inr ⟨v, he, h1, h2, hfs h3⟩
  | skip =>
    intro pl E w K a h hf hs
    cases pl <;> try exact (show False from h).elim
    exact wpIn_skip (.inl ⟨E, h, hf, Same.refl _ _⟩)
  | label l =>
    intro pl E w K a h hf hs
    cases pl <;> try exact (show False from h).elim
    exact wpIn_label (.inl ⟨E, h, hf, Same.refl _ _⟩)
  | exit id =>
    intro pl E w K a h hf hs
    cases pl <;> try exact (show False from h).elim
    exact wpIn_exit (.inl ⟨E, h, hf, Same.refl _ _⟩)
  | ret =>
    intro pl E w K a h hf hs
    cases pl <;> try exact (show False from h).elim
    exact wpIn_ret (.inl ⟨E, h, hf, Same.refl _ _⟩)
  | seq c d ihc ihd =>
    intro pl E w K a h hf hs
    simp only [slotsOk, Bool.and_eq_true] at hs
    have wrs : ∀ t, wr t (.seq c d) = false → wr t c = false ∧ wr t d = false := fun t ht => by simpa [wr] using ht
    have sc : ∀ {a b : Act}, Same c a b → Same (.seq c d) a b := fun h => h.sub fun t ht => (wrs t ht).1
    have sd : ∀ {a b : Act}, Same d a b → Same (.seq c d) a b := fun h => h.sub fun t ht => (wrs t ht).2
    have post : ∀ {a' : Act} {e : Exit} {a'' : Act} {w'' : World}, Same c a a' → Post N F d K a' e a'' w'' → Post N F (.seq c d) K a e a'' w'' := fun h3 hq => by
      rcases hq with ⟨E'', g1, g2, g3⟩ | ⟨v, g0, g1, g2, g3⟩
      · exact .inl ⟨E'', g1, g2, (sc h3).trans (sd g3)⟩
      · exact .inr ⟨v, g0, g1, g2, (sc h3).trans (sd g3)⟩
    cases pl <;> try exact (show False from h).elim
    · rename_i p q
      refine wpIn_seq (wpIn_mono (ihc p E w _ a h hf hs.1) fun e a' w' hq => ?_)
      rcases hq with ⟨E', h1, h2, h3⟩ | ⟨v, rfl, h1, h2, h3⟩
      · cases e <;> try exact .inl ⟨E', h1, h2, sc h3⟩
        exact wpIn_mono (ihd q E' w' K a' h1 h2 hs.2) fun e a'' w'' hq => post h3 hq
      · exact .inr ⟨v, rfl, h1, h2, sc h3⟩
    · rename_i live keep p q
      replace h : match keepOk keep c with
        | true => Join (fun s w => codeY P F q d (stPut live s ++ Env.keep E keep) w K) fun J => codeY P F p c E w fun e E w => match e with
          | .normal => stGet live E fun s => J s w
          | e => K e E w
        | false => False := h
      split at h
      · rename_i hk
        obtain ⟨J, hb, hfr⟩ := h
        refine wpIn_seq (wpIn_mono (ihc p E w _ a hfr hf hs.1) fun e a' w' hq => ?_)
        rcases hq with ⟨E', h1, h2, h3⟩ | ⟨v, rfl, h1, h2, h3⟩
        · cases e <;> try exact .inl ⟨E', h1, h2, sc h3⟩
          obtain ⟨s, hJ, hst⟩ := stGet_elim (N := N) h1
          have hfit : Fits N (stPut live s ++ Env.keep E keep) a' := append_fits (hst a' h2) (keep_held hf keep fun t ht => h3.1 t (keepOk_wr hk t ht)) h2.size
          exact wpIn_mono (ihd q _ w' K a' (hb s w' hJ) hfit hs.2) fun e a'' w'' hq => post h3 hq
        · exact .inr ⟨v, rfl, h1, h2, sc h3⟩
      · exact h.elim
  | cond x c d ihc ihd =>
    intro pl E w K a h hf hs
    simp only [slotsOk, Bool.and_eq_true] at hs
    have wrs : ∀ t, wr t (.cond x c d) = false → wr t c = false ∧ wr t d = false := fun t ht => by simpa [wr] using ht
    have sc : ∀ {a b : Act}, Same c a b → Same (.cond x c d) a b := fun h => h.sub fun t ht => (wrs t ht).1
    have sd : ∀ {a b : Act}, Same d a b → Same (.cond x c d) a b := fun h => h.sub fun t ht => (wrs t ht).2
    cases pl <;> try exact (show False from h).elim
    rename_i p q
    replace h : match E.rho x with
      | .bool b => Br b (codeY P F p c E w K) (codeY P F q d E w K)
      | _ => False := h
    split at h
    · rename_i b hb
      rcases Br_elim h with ⟨rfl, h⟩ | ⟨rfl, h⟩
      · refine wpIn_cond_true (rho_bool hf hb) (wpIn_mono (ihc p E w K a h hf hs.1) fun e a' w' hq => ?_)
        rcases hq with ⟨E', h1, h2, h3⟩ | ⟨v, h0, h1, h2, h3⟩
        · exact .inl ⟨E', h1, h2, sc h3⟩
        · exact .inr ⟨v, h0, h1, h2, sc h3⟩
      · refine wpIn_cond_false (rho_bool hf hb) (wpIn_mono (ihd q E w K a h hf hs.2) fun e a' w' hq => ?_)
        rcases hq with ⟨E', h1, h2, h3⟩ | ⟨v, h0, h1, h2, h3⟩
        · exact .inl ⟨E', h1, h2, sd h3⟩
        · exact .inr ⟨v, h0, h1, h2, sd h3⟩
    · exact h.elim
  | block id c ih =>
    intro pl E w K a h hf hs
    have sc : ∀ {a b : Act}, Same c a b → Same (.block id c) a b := fun h => h.sub fun t ht => by simpa [wr] using ht
    cases pl <;> try exact (show False from h).elim
    rename_i p
    refine wpIn_block (wpIn_mono (ih p E w _ a h hf hs) fun e a' w' hq => ?_)
    rcases hq with ⟨E', h1, h2, h3⟩ | ⟨v, rfl, h1, h2, h3⟩
    · cases e with
      | exit i =>
        replace h1 : match Nat.beq i id with
          | true => K .normal E' w'
          | false => K (.exit i) E' w' := h1
        show if i = id then _ else _
        cases hb : Nat.beq i id with
        | true => rw [hb] at h1; rw [if_pos (beq_eq hb)]; exact .inl ⟨E', h1, h2, sc h3⟩
        | false => rw [hb] at h1; rw [if_neg (fun e => by subst e; simp at hb)]; exact .inl ⟨E', h1, h2, sc h3⟩
      | _ => exact .inl ⟨E', h1, h2, sc h3⟩
    · exact .inr ⟨v, rfl, h1, h2, sc h3⟩
  | loop c ih =>
    intro pl E w K a h hf hs
    have sc : ∀ {a b : Act}, Same c a b → Same (.loop c) a b := fun h => h.sub fun t ht => by simpa [wr] using ht
    cases pl <;> try exact (show False from h).elim
    rename_i live keep p
    replace h : match keepOk keep c with
      | true => stGet live E fun s0 => Lp (fun R s w => codeY P F p c (stPut live s ++ Env.keep E keep) w fun e E w => match e with
        | .normal => stGet live E fun s => R s w
        | e => K e E w) s0 w
      | false => False := h
    split at h
    · rename_i hk
      obtain ⟨s0, ⟨I, n0, h0, hround⟩, hst0⟩ := stGet_elim (N := N) h
      refine wpIn_loop_ghost (rm := 0) (fun n a' w' => ∃ s, I n s w' ∧ Fits N (stPut live s ++ Env.keep E keep) a' ∧ Same c a a') n0
        ⟨s0, h0, append_fits (hst0 a hf) (keep_held hf keep fun _ _ => rfl) hf.size, Same.refl _ _⟩ ?_
      rintro n a' w' ⟨s, hI, hfit, hfr⟩
      refine wpIn_mono (ih p _ w' _ a' (hround n s w' hI) hfit hs) fun e a'' w'' hq => ?_
      rcases hq with ⟨E'', g1, g2, g3⟩ | ⟨v, rfl, g1, g2, g3⟩
      · have hfr' := hfr.trans g3
        cases e <;> try exact .inl ⟨E'', g1, g2, sc hfr'⟩
        obtain ⟨s', ⟨n', hlt, hI'⟩, hst⟩ := stGet_elim (N := N) g1
        exact ⟨n', hlt, s', hI', append_fits (hst a'' g2) (keep_held hf keep fun t ht => hfr'.1 t (keepOk_wr hk t ht)) g2.size, hfr'⟩
      · exact .inr ⟨v, rfl, g1, g2, sc (hfr.trans g3)⟩
    · exact h.elim
  | _ =>
    intro pl E w K a h hf hs
    cases pl <;> exact (show False from h).elim


/-- What a call of a function must satisfy that calls yield. -/
def fnY (P : Program) (F : Fx) (pl : Plan) (fn : Func) (args : List Value) (w : World) (tys : List Ty) (R : Sg tys → World → Prop) : Prop :=
  match fn.body with
  | none => False
  | some c => codeY P F pl c (env0 0 args) w fun e E w => match e with
    | .normal => resT P fn.results.toList E w fun vs => match Sg.get? tys vs with
      | some s => R s w
      | none => False
    | .ret => resT P fn.results.toList E w fun vs => match Sg.get? tys vs with
      | some s => R s w
      | none => False
    | _ => False
theorem fnY_calls {ok may : Nat → Bool} (hF : CallsOk P ok) {f : FuncId} {fn : Func} {pl : Plan} {args : List Value} {w : World} {tys : List Ty} {R : Sg tys → World → Prop}
    (hf : P.funcs[f]? = some fn) (hN : (match fn.body with
      | some c => slotsOk fn.ntmps c
      | none => false) = true) (ha : Nat.ble args.length fn.ntmps = true)
    (h : fnY P ⟨ok, may, fun _ _ => False⟩ pl fn args w tys R) : CallsIn Fence.wide 0 P f args.toArray w fun e w' => ∃ s : Sg tys, e = .returned (callV.retV (Sg.vals tys s)) ∧ R s w' := by
  unfold fnY at h
  split at h
  · exact h.elim
  · rename_i c hc
    rw [hc] at hN
    refine callsIn_of_wp hf hc trivial ?_ rfl
    refine wpIn_mono (codeY_in (F := ⟨ok, may, fun _ _ => False⟩) InF.wide hF c pl _ w _ _ h (fits0 (Nat.le_of_ble_eq_true ha)) hN) fun e a' w' hq => ?_
    rcases hq with ⟨E', h1, h2, h3⟩ | ⟨v, rfl, h1, h2, h3⟩
    · have fin : finT P fn tys R E' w' → a'.defers = [] ∧ ∃ v, (results fn a'.tmps).run P w' = .ok v w' ∧ ∃ s : Sg tys, Ending.returned v = .returned (callV.retV (Sg.vals tys s)) ∧ R s w' := fun h => by
        obtain ⟨v, g1, g2⟩ := fin_run h2 h
        exact ⟨h3.2, v, g1, g2⟩
      cases e with
      | normal => exact fin h1
      | ret => exact fin h1
      | _ => exact h1.elim
    · exact h1.elim
end
end Sh
end Go.Proofs.YtpkadliieplblaaDoor
