/- Regions, code and whole functions: the formula of 'Sh' implies the model's own account. Conditions: the functions that may be called have a body; every slot lies inside the frame; the program follows 'mixedOrders'. -/
import Derived.Test.YtpkadliieplblaaDoorShC
import Derived.Deep.LoopGhost
namespace Go.Proofs.YtpkadliieplblaaDoor
namespace Sh
set_option linter.unusedVariables false
section
variable {P : Program} {F : Fx} {N : Nat}

theorem out_upon {o : Oper} {a : Act} {next : Act → World → Prop} {Q : Exit → Act → World → Prop} {pk : Value → World → Prop} {K : Value → World → Prop} {r : Result Next} (h : OutP P pk K r)
    (hk : ∀ v w', K v w' → next (a.put o.dst v) w') (hp : ∀ v w', pk v w' → Q (.panic (onePanic v)) a w') : o.upon P a next Q r := by
  cases r with
  | halt x w =>
    cases x <;> try exact h.elim
    case panic v => exact hp _ _ h
  | ok n w =>
    cases n <;> try exact h.elim
    case value v => exact hk _ _ h
    case skip => exact hk _ _ h
    case enter f args =>
      refine Calls.mono h fun e w' he => ?_
      rcases he with ⟨v, rfl, hv⟩ | ⟨v, rfl, hv⟩
      · exact hk _ _ hv
      · exact hp _ _ hv

theorem fits_bool {E : Env} {a : Act} (h : Fits N E a) {s : Nat} {b : Bool} (hs : E.get? s = some (.bool b)) : a.tmps[s]? = some (.bool b) ∧ s < N := by
  obtain ⟨hlt, hg⟩ := h.get s _ hs
  have : s < a.tmps.size := by rw [h.size]; exact hlt
  refine ⟨?_, hlt⟩
  rw [Array.getElem?_eq_getElem this]
  simpa [Array.getD, this] using hg

theorem gdT_elim {ops : Array Oper} {E : Env} {o : Oper} {yes no : Env → Prop} {a : Act} (h : gdT ops E o yes no) (hf : Fits N E a) :
    (Region.wanted o (yielded ops a.tmps) = true ∧ ∃ E', Fits N E' a ∧ yes E') ∨ (Region.wanted o (yielded ops a.tmps) = false ∧ ∃ E', Fits N E' a ∧ no E') := by
  unfold gdT at h
  split at h
  · rename_i hg
    exact .inl ⟨by simp [Region.wanted, hg], E, hf, h⟩
  · rename_i j want hg
    split at h
    · rename_i s hs
      split at h
      · rename_i b hb
        obtain ⟨h1, h2⟩ := fits_bool hf hb
        have hy : yielded ops a.tmps j = some b := by simp [yielded, hs, h1]
        have hv : a.tmps.getD s undef = .bool b := (hf.get s _ hb).2
        split at h <;> rcases Br_elim h with ⟨rfl, h⟩ | ⟨rfl, h⟩
        · exact .inl ⟨by simp [Region.wanted, hg, hy], _, hf.cons h2 hv, h⟩
        · exact .inr ⟨by simp [Region.wanted, hg, hy], _, hf.cons h2 hv, h⟩
        · exact .inr ⟨by simp [Region.wanted, hg, hy], _, hf.cons h2 hv, h⟩
        · exact .inl ⟨by simp [Region.wanted, hg, hy], _, hf.cons h2 hv, h⟩
      · rename_i vs hb
        obtain ⟨hlt, hv⟩ := hf.get s _ hb
        have hlt' : s < a.tmps.size := by rw [hf.size]; exact hlt
        have h1 : a.tmps[s]? = some (.tuple vs) := by
          rw [Array.getElem?_eq_getElem hlt']
          simpa [Array.getD, hlt'] using hv
        have hy : yielded ops a.tmps j = none := by simp [yielded, hs, h1]
        exact .inr ⟨by simp [Region.wanted, hg, hy], E, hf, h⟩
      · exact h.elim
    · exact h.elim

def dstOk (N : Nat) (l : List Oper) : Prop := ∀ o ∈ l, ∀ d, o.dst = some d → d < N
def frame (l : List Oper) (a a' : Act) : Prop := (∀ t, (∀ o ∈ l, o.dst ≠ some t) → a'.tmps.getD t undef = a.tmps.getD t undef) ∧ a'.defers = a.defers
theorem frame.refl (l : List Oper) (a : Act) : frame l a a := ⟨fun _ _ => rfl, rfl⟩
theorem frame.put {l : List Oper} {a0 a : Act} {o : Oper} {v : Value} (h : frame l a0 a) (ho : o ∈ l) : frame l a0 (a.put o.dst v) :=
  ⟨fun t ht => by rw [put_frame (ht o ho)]; exact h.1 t ht, by rw [put_defers]; exact h.2⟩
theorem frame.unput {l : List Oper} {a0 a : Act} {o : Oper} {v : Value} (h : frame l a0 (a.put o.dst v)) (ho : o ∈ l) : frame l a0 a :=
  ⟨fun t ht => by rw [← h.1 t ht, put_frame (ht o ho)], by rw [← h.2, put_defers]⟩
theorem frame.sub {l m : List Oper} {a b : Act} (h : frame l a b) (hs : ∀ o ∈ l, o ∈ m) : frame m a b := ⟨fun t ht => h.1 t fun o ho => ht o (hs o ho), h.2⟩
theorem frame.trans {l : List Oper} {a b c : Act} (h : frame l a b) (k : frame l b c) : frame l a c := ⟨fun t ht => by rw [k.1 t ht]; exact h.1 t ht, by rw [k.2]; exact h.2⟩
theorem frame.cons {o : Oper} {l : List Oper} {a a' : Act} (h : frame l a a') : frame (o :: l) a a' := h.sub fun _ h => List.mem_cons_of_mem _ h

theorem frame_cons {o : Oper} {l : List Oper} {a a' : Act} {v : Value} (h : frame l (a.put o.dst v) a') : frame (o :: l) a a' :=
  ⟨fun t ht => by rw [h.1 t fun p hp => ht p (List.mem_cons_of_mem _ hp)]; exact put_frame (ht o List.mem_cons_self), by rw [h.2, put_defers]⟩
theorem Fits.some {N : Nat} {E : Env} {a : Act} (h : Fits N E a) : Fits N [] a := ⟨h.size, fun t v hv => by cases hv⟩
theorem Fits.unput {N : Nat} {a : Act} {d : Option Tmp} {v : Value} (h : Fits N [] (a.put d v)) : Fits N [] a := ⟨by have := h.size; cases d <;> simpa [Act.put] using this, fun t v hv => by cases hv⟩

theorem opsT_list (hF : CallsOk P F.ok) {ops : Array Oper} {Q : Exit → Act → World → Prop} : ∀ (l : List Oper) (E : Env) (w : World) (K : Env → World → Prop) (a : Act),
    opsT P F false ops l E w K → Fits N E a → dstOk N l → (∀ E' a' w', K E' w' → Fits N E' a' → frame l a a' → Q .normal a' w') →
    (∀ v a' w', F.pk v w' → Fits N [] a' → frame l a a' → Q (.panic (onePanic v)) a' w') → wpList P ops Q l a w
  | [], E, w, K, a, h, hf, _, hQ, _ => hQ E a w h hf (frame.refl _ _)
  | o :: r, E, w, K, a, h, hf, hd, hQ, hP => by
    have hd' : dstOk N r := fun p hp => hd p (List.mem_cons_of_mem _ hp)
    have ho := hd o List.mem_cons_self
    unfold wpList
    rcases gdT_elim h hf with ⟨hw, E', hf', hy⟩ | ⟨hw, E', hf', hn⟩
    · rw [if_pos hw]
      refine .inl ?_
      split at hy
      · rename_i hb
        simp only [Bool.and_eq_true] at hb
        unfold Oper.wp
        rw [hasAll_exec hf' hb.1]
        refine out_upon (opV_out hF hy) (fun v w' hk => ?_) fun v w' hp => hP v a w' hp hf.some (frame.refl _ _)
        exact opsT_list hF r _ w' K _ hk (hf'.put ho) hd' (fun E'' a' w'' h1 h2 h3 => hQ _ _ _ h1 h2 (frame_cons h3)) fun v a' w'' h1 h2 h3 => hP v a' w'' h1 h2 (frame_cons h3)
      · exact hy.elim
    · rw [if_neg (by rw [hw]; simp)]
      exact opsT_list hF r _ w K _ hn (hf'.put ho) hd' (fun E'' a' w'' h1 h2 h3 => hQ _ _ _ h1 h2 (frame_cons h3)) fun v a' w'' h1 h2 h3 => hP v a' w'' h1 h2 (frame_cons h3)

theorem opV_still {E : Env} {w : World} {K : Value → World → Prop} {o : Oper} (hs : stillOp P o.op = true) (h : opV P F true E o w K) : ∃ v, (execOp E.rho o).run P w = .ok (.value v) w ∧ K v w := by
  by_cases hl : ∃ t x, o.op = .load t x
  · obtain ⟨t, x, hl⟩ := hl
    obtain ⟨dst, op, type, pos, after, guard⟩ := o
    simp only at hl
    subst hl
    replace h : ldV P t (E.rho x) w fun v => K v w := h
    obtain ⟨v, h1, h2⟩ := ldV_run h
    exact ⟨v, by simp only [execOp, Sem.run_bind, h1, Result.andThen_ok, Sem.run_pure], h2⟩
  · obtain ⟨v, h1, h2⟩ := opV_q hs (fun t x e => hl ⟨t, x, e⟩) h
    exact ⟨v, h1 w, h2⟩

theorem opsT_still {ops : Array Oper} {Q : Act → Prop} : ∀ (l : List Oper) (E : Env) (w : World) (K : Env → World → Prop) (a : Act),
    opsT P F true ops l E w K → Fits N E a → dstOk N l → (∀ E' a', K E' w → Fits N E' a' → frame l a a' → Q a') → wpStill P ops w Q l a
  | [], E, w, K, a, h, hf, _, hQ => hQ E a h hf (frame.refl _ _)
  | o :: r, E, w, K, a, h, hf, hd, hQ => by
    have hd' : dstOk N r := fun p hp => hd p (List.mem_cons_of_mem _ hp)
    have ho := hd o List.mem_cons_self
    unfold wpStill
    rcases gdT_elim h hf with ⟨hw, E', hf', hy⟩ | ⟨hw, E', hf', hn⟩
    · rw [if_pos hw]
      split at hy
      · rename_i hb
        simp only [Bool.and_eq_true, Bool.not_true, Bool.false_or] at hb
        obtain ⟨v, h1, h2⟩ := opV_still hb.2 hy
        unfold Oper.still
        rw [hasAll_exec hf' hb.1, h1]
        exact ⟨rfl, opsT_still r _ w K _ h2 (hf'.put ho) hd' fun E'' a' h1 h2 h3 => hQ _ _ h1 h2 (frame_cons h3)⟩
      · exact hy.elim
    · rw [if_neg (by rw [hw]; simp)]
      exact opsT_still r _ w K _ hn (hf'.put ho) hd' fun E'' a' h1 h2 h3 => hQ _ _ h1 h2 (frame_cons h3)

theorem ldLQ_run {S : World → Prop} {a : Addr} {K : List Value → Prop} : ∀ (ts : List Ty1) (i : Nat), ldLQ S a i ts K →
    ∃ l : List Value, l.length = ts.length ∧ (∀ w, S w → ∀ j v, l[j]? = some v → w.cell? (a.add (i + j)) = some v) ∧ K l
  | [], _, h => ⟨[], rfl, by simp, h⟩
  | t :: ts, i, h => by
    obtain ⟨x, hx, hr⟩ := h
    obtain ⟨l, h1, h2, h3⟩ := ldLQ_run ts (i + 1) hr
    refine ⟨t.v x :: l, by simp [h1], fun w hw j v hj => ?_, h3⟩
    cases j with
    | zero => simp at hj; subst hj; simpa using hx w hw
    | succ j => have := h2 w hw j v (by simpa using hj); rw [show i + (j + 1) = i + 1 + j by omega]; exact this

theorem opQ_elim {S : World → Prop} {E : Env} {w : World} {K : Value → Prop} {o : Oper} (hs : stillOp P o.op = true) (h : opQ P F S E o w K) :
    ∃ v, (∀ w2, S w2 → (execOp E.rho o).run P w2 = .ok (.value v) w2) ∧ K v := by
  by_cases hl : ∃ t x, o.op = .load t x
  · obtain ⟨t, x, hl⟩ := hl
    obtain ⟨dst, op, type, pos, after, guard⟩ := o
    simp only at hl
    subst hl
    replace h : ldQ P S t (E.rho x) K := h
    unfold ldQ at h
    split at h
    · rename_i a hx
      have e : ∀ v w2, (loadVar t a).run P w2 = .ok v w2 → (execOp E.rho { dst := dst, op := .load t x, type := type, pos := pos, after := after, guard := guard }).run P w2 = .ok (.value v) w2 := fun v w2 hv => by
        simp only [execOp, hx, Instr.loadAt, Instr.sureAddr, Sem.run_bind, Sem.run_pure, Result.andThen_ok, hv]
      split at h
      · rename_i d n hd hn
        split at h
        · rename_i hg
          obtain ⟨v, h1, h2⟩ := h
          refine ⟨_, fun w2 hw => e _ _ ?_, h2⟩
          simp only [loadVar, Sem.run_bind, run_isAgg hd, hg, Result.andThen_ok, Bool.false_eq_true, if_false, run_loadOne (h1 w2 hw)]
        · rename_i hg
          split at h
          · rename_i ts _
            split at h
            · rename_i hlen
              obtain ⟨l, h1, h2, h3⟩ := ldLQ_run ts 0 h
              refine ⟨_, fun w2 hw => e _ _ ?_, h3⟩
              have hl : l.length = n := by rw [h1]; exact beq_eq hlen
              have := run_loadCells_list (P := P) w2 a l (fun j v hj => by simpa using h2 w2 hw j v hj)
              simp only [loadVar, Sem.run_bind, run_isAgg hd, hg, Result.andThen_ok, if_true, run_size hn, ← hl, this, Sem.run_pure]
            · exact h.elim
          · obtain ⟨v, h1, h2⟩ := h
            exact ⟨.agg v, fun w2 hw => e _ _ (h1 w2 hw), h2⟩
      · exact h.elim
    · exact h.elim
  · have h' : opV P F true E o w fun v _ => K v := by
      unfold opQ at h
      split at h
      · rename_i t x hx
        exact (hl ⟨t, x, hx⟩).elim
      · exact h
    obtain ⟨v, h1, h2⟩ := opV_q hs (fun t x e => hl ⟨t, x, e⟩) h'
    exact ⟨v, fun w2 _ => h1 w2, h2⟩

/-! ### Regions where what was known of the world ends with an operation -/

def Closed (ops : Array Oper) (L : Array Bool) : Prop := ∀ j o, ops[j]? = some o → L.getD j false = true → ∀ e ∈ o.after, Region.binds .any e = true → L.getD e.on false = true
theorem Closed.start (ops : Array Oper) (n : Nat) : Closed ops (Array.replicate n false) := fun j o _ h => by
  simp only [Array.getD_eq_getD_getElem?, Array.getElem?_replicate] at h
  split at h <;> simp at h
theorem Closed.set {ops : Array Oper} {L : Array Bool} {j : Nat} (h : Closed ops L) (hj : j ∈ Region.ready .any ops L) : Closed ops (L.setIfInBounds j true) := fun k o ho hk e he hb => by
  by_cases hkj : j = k
  · subst hkj
    obtain ⟨_, o', ho', hall⟩ := mem_ready.1 hj
    rw [ho] at ho'
    cases ho'
    exact getD_set_true (hall e he hb)
  · rw [getD_set_ne false hkj] at hk
    exact getD_set_true (h k o ho hk e he hb)
theorem markL_spec {L : Array Bool} : ∀ (es : List Edge) (m : Array Bool), (∀ e ∈ es, Region.binds .any e = true → L.getD e.on false = true) → (∀ k, m.getD k false = true → L.getD k false = true) →
    ∀ k, (markL es m).getD k false = true → L.getD k false = true
  | [], _, _, h, k, hk => h k hk
  | e :: es, m, he, h, k, hk => by
    unfold markL at hk
    rw [List.foldl_cons] at hk
    refine markL_spec es _ (fun e' h' => he e' (List.mem_cons_of_mem _ h')) (fun i hi => ?_) k hk
    split at hi
    · rename_i hb
      by_cases hei : e.on = i
      · subst hei; exact he e List.mem_cons_self hb
      · rw [getD_set_ne false hei] at hi; exact h i hi
    · exact h i hi
theorem ancL_spec {ops : Array Oper} {L : Array Bool} (hL : Closed ops L) : ∀ (n : Nat) (m : Array Bool), (∀ k, m.getD k false = true → L.getD k false = true) → ∀ k, (ancL ops n m).getD k false = true → L.getD k false = true
  | 0, _, h, k, hk => h k hk
  | n + 1, m, h, k, hk => by
    unfold ancL at hk
    refine ancL_spec hL n _ (fun i hi => ?_) k hk
    split at hi
    · rename_i o hm ho
      exact markL_spec _ _ (fun e he hb => hL n o ho (h n hm) e (by simpa using he) hb) h i hi
    · exact h i hi
theorem anc_spec {ops : Array Oper} {L : Array Bool} (hL : Closed ops L) {i j : Nat} (ha : anc ops j i = true) (hj : j ∈ Region.ready .any ops L) (hi : i ∈ Region.ready .any ops L) : False := by
  obtain ⟨_, o, ho, hall⟩ := mem_ready.1 hj
  unfold anc at ha
  rw [ho] at ha
  have h1 := ancL_spec hL j _ (markL_spec o.after.toList _ (fun e he hb => hall e (by simpa using he) hb) (fun k hk => by
    simp only [Array.getD_eq_getD_getElem?, Array.getElem?_replicate] at hk
    split at hk <;> simp at hk)) i ha
  have h0 := (mem_ready.1 hi).1
  rcases Nat.lt_or_ge i L.size with h' | h'
  · simp [h'] at h0 h1; rw [h0] at h1; cases h1
  · simp [Array.getElem?_eq_none h'] at h1

section
variable {ops : Array Oper} {Q : Exit → Act → World → Prop} {S : World → Prop} {J : List Nat}
def wpAnyK (P : Program) (ops : Array Oper) (Q : Exit → Act → World → Prop) (J : List Nat) (S : World → Prop) : Nat → Array Bool → Act → World → Prop
  | 0, listed, a, w => Region.ready .any ops listed = [] ∧ Q .normal a w
  | fuel + 1, listed, a, w => (Region.ready .any ops listed = [] → Q .normal a w) ∧ ∀ i ∈ Region.ready .any ops listed,
    if J.contains i = true then wpOp P ops Q i (fun a' w' => wpAny P .any ops Q fuel (listed.setIfInBounds i true) a' w') a w
    else wpOp P ops Q i (fun a' w' => S w' ∧ wpAnyK P ops Q J S fuel (listed.setIfInBounds i true) a' w') a w
theorem wpAny_of_K : ∀ (fuel : Nat) (listed : Array Bool) (a : Act) (w : World), wpAnyK P ops Q J S fuel listed a w → wpAny P .any ops Q fuel listed a w
  | 0, _, _, _, h => h
  | fuel + 1, _, _, _, h => ⟨h.1, fun i hi => by
    have := h.2 i hi
    split at this
    · exact this
    · exact wpOp_mono (fun a' w' h' => wpAny_of_K fuel _ a' w' h'.2) this⟩
def CanTake (P : Program) (ops : Array Oper) (J : List Nat) (S : World → Prop) (i : Nat) (oi : Oper) (v : Value) (a : Act) : Prop :=
  Yields P ops oi v a ∨ (YieldsIf P ops S oi v a ∧ ∀ j ∈ J, anc ops j i = true)
theorem CanTake.yieldsIf {i : Nat} {oi : Oper} {v : Value} {a : Act} (h : CanTake P ops J S i oi v a) : YieldsIf P ops S oi v a := h.elim (fun h => h.yieldsIf) (fun h => h.1)
theorem wpAnyK_first {i : Nat} {oi : Oper} {v : Value} (hi : ops[i]? = some oi) (hsel : ∀ (j : Nat) (o : Oper) cs b, ops[j]? = some o → o.op ≠ .select cs b)
    (hQ : ∀ c a w, Q (.panic c) (a.put oi.dst v) w → Q (.panic c) a w) :
    ∀ (fuel : Nat) (listed : Array Bool) (a : Act) (w : World),
      (∀ j oj, ops[j]? = some oj → j ≠ i → listed.getD j true = false → (∀ e ∈ oj.after, Region.binds .any e = true → e.on ≠ i) → oi.apart ops oj = true) →
      Closed ops listed → i ∈ Region.ready .any ops listed → CanTake P ops J S i oi v a → S w →
      wpAnyK P ops Q J S fuel (listed.setIfInBounds i true) (a.put oi.dst v) w → wpAnyK P ops Q J S (fuel + 1) listed a w := by
  intro fuel
  have self : ∀ (fuel : Nat) (listed : Array Bool) (a : Act) (w : World), CanTake P ops J S i oi v a → S w → wpAnyK P ops Q J S fuel (listed.setIfInBounds i true) (a.put oi.dst v) w →
      (if J.contains i = true then wpOp P ops Q i (fun a' w' => wpAny P .any ops Q fuel (listed.setIfInBounds i true) a' w') a w
        else wpOp P ops Q i (fun a' w' => S w' ∧ wpAnyK P ops Q J S fuel (listed.setIfInBounds i true) a' w') a w) := fun fuel listed a w hy hS H => by
    split
    · exact hy.yieldsIf.wpOp hi hS (wpAny_of_K _ _ _ _ H)
    · exact hy.yieldsIf.wpOp hi hS ⟨hS, H⟩
  induction fuel with
  | zero =>
    intro listed a w _ _ hr hy hS H
    refine ⟨fun h => (by rw [h] at hr; cases hr), fun j hj => ?_⟩
    by_cases hji : j = i
    · subst hji; exact self 0 listed a w hy hS H
    · have := ready_mono hj hji
      rw [H.1] at this
      cases this
  | succ fuel ih =>
    intro listed a w hfree hcl hr hy hS H
    refine ⟨fun h => (by rw [h] at hr; cases hr), fun j hj => ?_⟩
    by_cases hji : j = i
    · subst hji; exact self _ listed a w hy hS H
    · have h1 := H.2 j (ready_mono hj hji)
      obtain ⟨hjun, oj, hoj, hall⟩ := mem_ready.1 hj
      have hnot : ∀ e ∈ oj.after, Region.binds .any e = true → e.on ≠ i := fun e he hb heq => by
        have h1 := hall e he hb
        have h0 := (mem_ready.1 hr).1
        rw [heq] at h1
        rcases Nat.lt_or_ge i listed.size with h' | h'
        · simp [h'] at h0 h1; rw [h0] at h1; cases h1
        · simp [Array.getElem?_eq_none h'] at h1
      have hfree' : ∀ k ok, ops[k]? = some ok → k ≠ i → (listed.setIfInBounds j true).getD k true = false →
          (∀ e ∈ ok.after, Region.binds .any e = true → e.on ≠ i) → oi.apart ops ok = true := fun k ok hk hki hun hno => by
        refine hfree k ok hk hki ?_ hno
        by_cases hjk : j = k
        · subst hjk; exact hjun
        · rw [getD_set_ne true hjk] at hun; exact hun
      have hap := hfree j oj hoj hji hjun hnot
      split at h1
      · rename_i hJ
        rw [if_pos hJ]
        rcases hy with hy | ⟨_, hy⟩
        · have h2 := wpOp_put hoj hap (fun cs b => hsel i oi cs b hi) (fun cs b => hsel j oj cs b hoj) hQ hy h1
          refine wpOp_mono (fun a' w' h3 => wpAny_first hi hsel hQ fuel _ a' w' hfree' (ready_mono hr (Ne.symm hji)) h3.1 ?_) h2
          rw [Array.setIfInBounds_comm _ _ hji]
          exact h3.2
        · exact (anc_spec hcl (hy j (by simpa using hJ)) hj hr).elim
      · rename_i hJ
        rw [if_neg hJ]
        have step : wpOp P ops Q j (fun a' w' => CanTake P ops J S i oi v a' ∧ S w' ∧ wpAnyK P ops Q J S fuel ((listed.setIfInBounds i true).setIfInBounds j true) (a'.put oi.dst v) w') a w := by
          rcases hy with hy | ⟨hy, hyJ⟩
          · exact wpOp_mono (fun a' w' h3 => ⟨.inl h3.1, h3.2⟩) (wpOp_put hoj hap (fun cs b => hsel i oi cs b hi) (fun cs b => hsel j oj cs b hoj) hQ hy h1)
          · exact wpOp_mono (fun a' w' h3 => ⟨.inr ⟨h3.1, hyJ⟩, h3.2⟩) (wpOp_putIf hoj hap (fun cs b => hsel i oi cs b hi) (fun cs b => hsel j oj cs b hoj) hQ hy h1)
        refine wpOp_mono (fun a' w' h3 => ⟨h3.2.1, ih (listed.setIfInBounds j true) a' w' hfree' (hcl.set hj) (ready_mono hr (Ne.symm hji)) h3.1 h3.2.1 ?_⟩) step
        rw [Array.setIfInBounds_comm _ _ hji]
        exact h3.2.2
end

/-- What an operation yields in every world, if it is no load. -/
theorem opQ_every {S : World → Prop} {E : Env} {w : World} {K : Value → Prop} {o : Oper} (hs : stillOp P o.op = true) (hl : isLoad o.op = false) (h : opQ P F S E o w K) :
    ∃ v, (∀ w2, (execOp E.rho o).run P w2 = .ok (.value v) w2) ∧ K v := by
  have hl' : ∀ t x, o.op ≠ .load t x := fun t x e => by rw [e] at hl; cases hl
  have h' : opV P F true E o w fun v _ => K v := by
    unfold opQ at h
    split at h
    · rename_i t x hx
      exact (hl' t x hx).elim
    · exact h
  obtain ⟨v, h1, h2⟩ := opV_q hs hl' h'
  exact ⟨v, h1, h2⟩

/-- One that comes up. -/
theorem effT_op (hF : CallsOk P F.ok) {ops : Array Oper} {Q : Exit → Act → World → Prop} {J : List Nat} {S : World → Prop} {i : Nat} {fl : Option (List Nat)} {lo : Bool} {E : Env} {w : World} {o : Oper} {a : Act}
    {fuel : Nat} {listed : Array Bool} {k : (World → Prop) → Env → World → Prop} (ho : ops[i]? = some o) (hS : S w) (hf : Fits N E a) (hd : ∀ t, o.dst = some t → t < N)
    (hp : ∀ v w', F.pk v w' → Q (.panic (onePanic v)) a w') (h : effT P F ops J S i fl lo E w o k) (hk : ∀ S E' v w', k S E' w' → S w' → Fits N E' (a.put o.dst v) → wpAnyK P ops Q (fl.getD J) S fuel (listed.setIfInBounds i true) (a.put o.dst v) w') :
    if J.contains i = true then wpOp P ops Q i (fun a' w' => wpAny P .any ops Q fuel (listed.setIfInBounds i true) a' w') a w
    else wpOp P ops Q i (fun a' w' => S w' ∧ wpAnyK P ops Q J S fuel (listed.setIfInBounds i true) a' w') a w := by
  have ph : ∀ (E' : Env) (v : Value) (w' : World), phT lo w' (fun S => k S E' w') → Fits N E' (a.put o.dst v) → wpAny P .any ops Q fuel (listed.setIfInBounds i true) (a.put o.dst v) w' := fun E' v w' h hf => by
    unfold phT at h
    split at h
    · obtain ⟨S', h1, h2⟩ := h
      exact wpAny_of_K _ _ _ _ (hk _ _ _ _ h2 h1 hf)
    · exact wpAny_of_K _ _ _ _ (hk _ _ _ _ h trivial hf)
  unfold effT at h
  split at h
  · rename_i hJ
    rw [if_neg (by rw [hJ]; simp)]
    unfold wpOp
    simp only [ho]
    rcases gdT_elim h hf with ⟨hw, E', hf', hy⟩ | ⟨hw, E', hf', hn⟩
    · rw [if_pos hw]
      split at hy
      · rename_i hall
        refine .inl ?_
        unfold Oper.wp
        rw [hasAll_exec hf' hall]
        exact out_upon (opV_out hF hy) (fun v w' hv => ⟨hv.1, hk _ _ _ _ hv.2 hv.1 (hf'.put hd)⟩) hp
      · exact hy.elim
    · rw [if_neg (by rw [hw]; simp)]
      exact ⟨hS, hk _ _ _ _ hn hS (hf'.put hd)⟩
  · rename_i J' hJ
    rw [if_pos hJ]
    unfold wpOp
    simp only [ho]
    rcases gdT_elim h hf with ⟨hw, E', hf', hy⟩ | ⟨hw, E', hf', hn⟩
    · rw [if_pos hw]
      split at hy
      · rename_i hall
        refine .inl ?_
        unfold Oper.wp
        rw [hasAll_exec hf' hall]
        exact out_upon (opV_out hF hy) (fun v w' hv => ph _ _ _ hv (hf'.put hd)) hp
      · exact hy.elim
    · rw [if_neg (by rw [hw]; simp)]
      exact ph _ _ _ hn (hf'.put hd)
  · exact h.elim

/-! ### Operations that come up in any order, each of which keeps what is known -/

theorem notIn_spec {x : Nat} : ∀ {l : List Nat}, notIn x l = true → x ∉ l
  | [], _, h => by cases h
  | y :: r, h, hm => by
    simp only [notIn, Bool.and_eq_true, Bool.not_eq_true'] at h
    rcases List.mem_cons.1 hm with rfl | hm
    · simp at h
    · exact notIn_spec h.2 hm
theorem distinct_spec : ∀ {l : List Nat}, distinct l = true → l.Nodup
  | [], _ => List.nodup_nil
  | x :: r, h => by
    simp only [distinct, Bool.and_eq_true] at h
    exact List.nodup_cons.2 ⟨notIn_spec h.1, distinct_spec h.2⟩
theorem size_markJs : ∀ (js : List Nat) (l : Array Bool), (markJs l js).size = l.size
  | [], _ => rfl
  | j :: js, l => by rw [markJs, size_markJs js]; simp
theorem getD_markJs (k : Nat) : ∀ (js : List Nat) (l : Array Bool), (∀ j ∈ js, j < l.size) → ((markJs l js).getD k false = true ↔ l.getD k false = true ∨ k ∈ js)
  | [], l, _ => by simp [markJs]
  | j :: js, l, h => by
    rw [markJs, getD_markJs k js _ (fun i hi => by simpa using h i (List.mem_cons_of_mem _ hi))]
    have hj := h j List.mem_cons_self
    by_cases hkj : j = k
    · subst hkj
      simp [Array.getD, hj]
    · rw [getD_set_ne false hkj]
      simp only [List.mem_cons]
      constructor
      · rintro (h | h)
        · exact .inl h
        · exact .inr (.inr h)
      · rintro (h | h | h)
        · exact .inl h
        · exact absurd h.symm hkj
        · exact .inr h
theorem usesTmp_spec {op : Op} {d : Nat} (h : usesTmp op d = false) : ∀ x ∈ op.operands.toList, x ≠ .tmp d := fun x hx e => by
  unfold usesTmp at h
  have := List.any_eq_false.1 h x hx
  subst e
  simp at this
section
variable {ops : Array Oper}
/-- What is known of the values of those that are listed. -/
def GHeld (N : Nat) (Gs : List GEntry) (listed : Array Bool) (a : Act) (w : World) : Prop :=
  ∀ e ∈ Gs, listed.getD e.j false = true → e.dst < N ∧ ∃ x : e.ty.T, e.G x w ∧ a.tmps.getD e.dst undef = e.ty.v x
theorem depsT_elim {o : Oper} {listed : Array Bool} {a : Act} {w : World} {k : Env → Prop} : ∀ (l : List GEntry) (E : Env), depsT o l E w k → Fits N E a → GHeld N l listed a w → (∀ e ∈ l, usesTmp o.op e.dst = true → listed.getD e.j false = true) →
    ∃ E', Fits N E' a ∧ k E'
  | [], E, h, hf, _, _ => ⟨E, hf, h⟩
  | e :: r, E, h, hf, hg, hu => by
    have hg' : GHeld N r listed a w := fun e he => hg e (List.mem_cons_of_mem _ he)
    have hu' : ∀ e ∈ r, usesTmp o.op e.dst = true → listed.getD e.j false = true := fun e he => hu e (List.mem_cons_of_mem _ he)
    unfold depsT at h
    split at h
    · rename_i hb
      obtain ⟨hlt, x, hx, hv⟩ := hg e List.mem_cons_self (hu e List.mem_cons_self hb)
      exact depsT_elim r _ (h x hx) (hf.cons hlt hv) hg' hu'
    · exact depsT_elim r E h hf hg' hu'
theorem depsAll_elim {listed : Array Bool} {a : Act} {w : World} {k : Env → Prop} : ∀ (l : List GEntry) (E : Env), depsAll l E w k → Fits N E a → GHeld N l listed a w → (∀ e ∈ l, listed.getD e.j false = true) → ∃ E', Fits N E' a ∧ k E'
  | [], E, h, hf, _, _ => ⟨E, hf, h⟩
  | e :: r, E, h, hf, hg, hu => by
    obtain ⟨hlt, x, hx, hv⟩ := hg e List.mem_cons_self (hu e List.mem_cons_self)
    exact depsAll_elim r _ (h x hx) (hf.cons hlt hv) (fun e he => hg e (List.mem_cons_of_mem _ he)) (fun e he => hu e (List.mem_cons_of_mem _ he))
/-- How the entries hang together with the operations. -/
def GsOk (ops : Array Oper) (le : World → World → Prop) (Gs : List GEntry) : Prop := ∀ e ∈ Gs, (∃ o, ops[e.j]? = some o ∧ o.dst = some e.dst) ∧ ∀ x w w', le w w' → e.G x w → e.G x w'
theorem monoG_elim {le : World → World → Prop} {k : List GEntry → Prop} : ∀ (js : List Nat) (acc : List GEntry), monoG P ops le js acc k → GsOk ops le acc → ∃ Gs, GsOk ops le Gs ∧ Gs.map (·.j) = acc.map (·.j) ++ js ∧ k Gs
  | [], acc, h, hg => ⟨acc, hg, by simp, h⟩
  | j :: js, acc, h, hg => by
    unfold monoG at h
    split at h
    · rename_i o ho
      split at h
      · rename_i d hd
        obtain ⟨G, hG, h⟩ := h
        obtain ⟨Gs, h1, h2, h3⟩ := monoG_elim js _ h (fun e he => by
          rcases List.mem_append.1 he with he | he
          · exact hg e he
          · rw [List.mem_singleton.1 he]
            exact ⟨⟨o, ho, hd⟩, hG⟩)
        exact ⟨Gs, h1, by rw [h2]; simp, h3⟩
      · exact h.elim
    · exact h.elim
theorem monoI_elim {S : World → Prop} {le : World → World → Prop} {B : World → Prop} {E : Env} {all : List GEntry} : ∀ (l : List GEntry), monoI P F ops S le B E all l → ∀ e ∈ l, ∃ o, ops[e.j]? = some o ∧ ∀ w, S w → B w → depsT o all E w fun E' => match hasAll E' o.op with
      | true => opV P F false E' o w fun v w' => S w' ∧ B w' ∧ le w w' ∧ ∃ x : e.ty.T, v = e.ty.v x ∧ e.G x w'
      | false => False
  | [], _, e, he => by cases he
  | e :: r, h, e', he => by
    obtain ⟨h1, h2⟩ := h
    rcases List.mem_cons.1 he with rfl | he
    · split at h1
      · rename_i o ho
        exact ⟨o, ho, h1⟩
      · exact h1.elim
    · exact monoI_elim r h2 e' he
theorem exists_least (p : Nat → Prop) : ∀ (n : Nat), (∃ m, m < n ∧ p m) → ∃ m, p m ∧ ∀ k, k < m → ¬ p k
  | 0, ⟨m, h, _⟩ => by omega
  | n + 1, h => by
    by_cases h' : ∃ m, m < n ∧ p m
    · exact exists_least p n h'
    · obtain ⟨m, hm, hp⟩ := h
      refine ⟨m, hp, fun k hk hk2 => h' ⟨k, by omega, hk2⟩⟩
theorem monoOk_spec {listed : Array Bool} {js : List Nat} {E : Env} (h : monoOk ops listed js E = true) : js.Nodup ∧ (js.map (dstOf ops)).Nodup ∧
    (∀ j ∈ js, ∃ o, ops[j]? = some o ∧ o.guard = none ∧ listed.getD j true = false ∧ E.get? (dstOf ops j) = none ∧
      (∀ e ∈ o.after, Region.binds .any e = true → listed.getD e.on false = true ∨ (e.on ∈ js ∧ e.on < j)) ∧
      (∀ j' ∈ js, usesTmp o.op (dstOf ops j') = true → ∃ e ∈ o.after, Region.binds .any e = true ∧ e.on = j')) ∧
    (∀ k, k < ops.size → listed.getD k true = false → k ∉ js → ∀ j ∈ js, anc ops k j = true) := by
  unfold monoOk at h
  simp only [Bool.and_eq_true] at h
  obtain ⟨⟨⟨h1, h2⟩, h3⟩, h4⟩ := h
  refine ⟨distinct_spec h1, distinct_spec h2, fun j hj => ?_, fun k hk hl hn j hj => ?_⟩
  · have := List.all_eq_true.1 h3 j hj
    split at this
    · rename_i o ho
      simp only [Bool.and_eq_true, Bool.not_eq_true', Option.isNone_iff_eq_none] at this
      obtain ⟨⟨⟨⟨⟨g1, g2⟩, g3⟩, g4⟩, g5⟩, g6⟩ := this
      refine ⟨o, ho, g1, g3, by simpa using g4, fun e he hb => ?_, fun j' hj' hu => ?_⟩
      · have := List.all_eq_true.1 g5 e (by simpa using he)
        simp only [Bool.or_eq_true, Bool.not_eq_true', Bool.and_eq_true] at this
        rcases this with (h | h) | h
        · rw [hb] at h; cases h
        · exact .inl h
        · exact .inr ⟨by simpa using h.1, Nat.le_of_ble_eq_true h.2⟩
      · have := List.all_eq_true.1 g6 j' hj'
        simp only [Bool.or_eq_true, Bool.not_eq_true'] at this
        rcases this with h | h
        · rw [hu] at h; cases h
        · obtain ⟨e, he, h⟩ := List.any_eq_true.1 h
          simp only [Bool.and_eq_true] at h
          exact ⟨e, by simpa using he, h.1, beq_eq h.2⟩
    · cases this
  · have := List.all_eq_true.1 h4 k (List.mem_range.2 hk)
    simp only [Bool.or_eq_true] at this
    rcases this with (h | h) | h
    · rw [hl] at h; cases h
    · exact absurd (by simpa using h) hn
    · exact List.all_eq_true.1 h j hj
end
/-- How a region may end. -/
def HQ (P : Program) (F : Fx) (N : Nat) (ops : Array Oper) (a0 : Act) (G : Act → World → Prop) (e : Exit) (a' : Act) (w' : World) : Prop :=
  (e = .normal ∧ G a' w') ∨ ∃ v, e = .panic (onePanic v) ∧ F.pk v w' ∧ Fits N [] a' ∧ frame ops.toList a0 a'
theorem HQ.unput {ops : Array Oper} {a0 : Act} {G : Act → World → Prop} {c : List PanicEntry} {a : Act} {o : Oper} {v : Value} {w : World} (h : HQ P F N ops a0 G (.panic c) (a.put o.dst v) w) (ho : o ∈ ops.toList) : HQ P F N ops a0 G (.panic c) a w := by
  rcases h with ⟨h, _⟩ | ⟨u, h1, h2, h3, h4⟩
  · cases h
  · exact .inr ⟨u, h1, h2, h3.unput, h4.unput ho⟩

/-- The turn of those that come up in any order. -/
theorem mono_any (hF : CallsOk P F.ok) {ops : Array Oper} {G : Act → World → Prop} {a0 : Act} {J : List Nat} {S : World → Prop} {listed0 : Array Bool} {js : List Nat} {E : Env} {le : World → World → Prop} {B : World → Prop} {Gs : List GEntry} {n : Nat}
    (hd : dstOk N ops.toList) (hJ : ∀ j ∈ js, J.contains j = false) (hok : monoOk ops listed0 js E = true) (hGs : GsOk ops le Gs) (hjs : Gs.map (·.j) = js) (hI : monoI P F ops S le B E Gs Gs)
    (hend : ∀ a w fuel, n ≤ fuel → S w → B w → Closed ops (markJs listed0 js) → frame ops.toList a0 a → (∀ k : Env → Prop, depsAll Gs E w k → ∃ E', Fits N E' a ∧ k E') → wpAnyK P ops (HQ P F N ops a0 G) J S fuel (markJs listed0 js) a w) :
    ∀ (m : Nat) (listed : Array Bool) (a : Act) (w : World) (fuel : Nat), (js.filter fun j => !listed.getD j false).length = m → n + m ≤ fuel → listed.size = listed0.size → (∀ k, listed.getD k false = true → listed0.getD k false = true ∨ k ∈ js) →
      (∀ k, listed0.getD k false = true → listed.getD k false = true) → Closed ops listed → S w → B w → Fits N E a → frame ops.toList a0 a → GHeld N Gs listed a w → wpAnyK P ops (HQ P F N ops a0 G) J S fuel listed a w := by
  obtain ⟨hnd, hdn, hop, hout⟩ := monoOk_spec hok
  have hlt : ∀ j ∈ js, j < listed0.size := fun j hj => by
    obtain ⟨o, _, _, h, _⟩ := hop j hj
    rcases Nat.lt_or_ge j listed0.size with h' | h'
    · exact h'
    · simp [Array.getElem?_eq_none h'] at h
  intro m
  induction m with
  | zero =>
    intro listed a w fuel hm hfu hsz hin hback hcl hS hB hf hfr hg
    have hall : ∀ j ∈ js, listed.getD j false = true := fun j hj => by
      have h0 := List.eq_nil_of_length_eq_zero hm
      cases hx : listed.getD j false with
      | true => rfl
      | false =>
        have : j ∈ js.filter fun j => !listed.getD j false := List.mem_filter.2 ⟨hj, by rw [hx]; rfl⟩
        rw [h0] at this
        cases this
    have heq : listed = markJs listed0 js := by
      refine Array.ext (by rw [size_markJs, hsz]) fun k h1 h2 => ?_
      have e1 : listed.getD k false = listed[k] := by simp [Array.getD, h1]
      have e2 : (markJs listed0 js).getD k false = (markJs listed0 js)[k] := by simp [Array.getD, h2]
      rw [← e1, ← e2, Bool.eq_iff_iff, getD_markJs k js listed0 hlt]
      exact ⟨hin k, fun h => h.elim (hback k) (hall k)⟩
    have hge : ∀ e ∈ Gs, listed.getD e.j false = true := fun e he => hall e.j (by rw [← hjs]; exact List.mem_map_of_mem he)
    have key : ∀ k : Env → Prop, depsAll Gs E w k → ∃ E', Fits N E' a ∧ k E' := fun k hk => depsAll_elim Gs E hk hf hg hge
    subst heq
    exact hend a w fuel (by omega) hS hB hcl hfr key
  | succ m ih =>
    intro listed a w fuel hm hfu hsz hin hback hcl hS hB hf hfr hg
    obtain ⟨fuel, rfl⟩ : ∃ n, fuel = n + 1 := ⟨fuel - 1, by omega⟩
    -- one that is ready
    have hun : ∃ j, j < listed0.size ∧ (j ∈ js ∧ listed.getD j false = false) := by
      have : (js.filter fun j => !listed.getD j false) ≠ [] := fun h => by rw [h] at hm; cases hm
      obtain ⟨j, hj⟩ := List.exists_mem_of_ne_nil _ this
      obtain ⟨h1, h2⟩ := List.mem_filter.1 hj
      exact ⟨j, hlt j h1, h1, by simpa using h2⟩
    obtain ⟨j0, ⟨hj0, hl0⟩, hleast⟩ := exists_least _ _ hun
    have getT : ∀ k, k < listed0.size → listed.getD k false = false → listed.getD k true = false := fun k hk h => by
      have : k < listed.size := by omega
      simpa [Array.getD, this] using h
    have hr0 : j0 ∈ Region.ready .any ops listed := by
      obtain ⟨o, ho, _, _, _, haf, _⟩ := hop j0 hj0
      refine mem_ready.2 ⟨getT j0 (hlt j0 hj0) hl0, o, ho, fun e he hb => ?_⟩
      rcases haf e he hb with h | ⟨h1, h2⟩
      · exact hback _ h
      · cases hx : listed.getD e.on false with
        | true => rfl
        | false => exact absurd ⟨h1, hx⟩ (hleast e.on h2)
    refine ⟨fun h => (by rw [h] at hr0; cases hr0), fun i hi => ?_⟩
    obtain ⟨hil, oi, hoi, hall⟩ := mem_ready.1 hi
    have hij : i ∈ js := by
      refine Decidable.byContradiction fun hn => ?_
      have hlt' : i < ops.size := (Array.getElem?_eq_some_iff.1 hoi).1
      have hl0' : listed0.getD i true = false := by
        have h1 : listed.getD i false = false := by
          cases hx : listed.getD i false with
          | false => rfl
          | true =>
            have : i < listed.size := by
              rcases Nat.lt_or_ge i listed.size with h' | h'
              · exact h'
              · simp [Array.getElem?_eq_none h'] at hil
            simp [Array.getD, this] at hil hx
            rw [hil] at hx; cases hx
        cases hx : listed0.getD i false with
        | true => rw [hback i hx] at h1; cases h1
        | false =>
          have : i < listed0.size := by
            rcases Nat.lt_or_ge i listed.size with h' | h'
            · omega
            · simp [Array.getElem?_eq_none h'] at hil
          simpa [Array.getD, this] using hx
      exact anc_spec hcl (hout i hlt' hl0' hn j0 hj0) hi hr0
    rw [if_neg (by rw [hJ i hij]; simp)]
    obtain ⟨e, he, hej⟩ : ∃ e ∈ Gs, e.j = i := by
      have : i ∈ Gs.map (·.j) := by rw [hjs]; exact hij
      obtain ⟨e, he, h⟩ := List.mem_map.1 this
      exact ⟨e, he, h⟩
    obtain ⟨o, ho, hgd, _, hEn, _, hus⟩ := hop i hij
    rw [hoi] at ho
    cases ho
    obtain ⟨o', ho', hobl⟩ := monoI_elim Gs hI e he
    rw [hej, hoi] at ho'
    cases ho'
    obtain ⟨⟨o'', ho'', hdst⟩, _⟩ := hGs e he
    rw [hej, hoi] at ho''
    cases ho''
    have hdste : dstOf ops i = e.dst := by unfold dstOf; rw [hoi]; simp [hdst]
    have hom : oi ∈ ops.toList := by
      have := Array.mem_of_getElem? hoi
      simpa using this
    have hdN : e.dst < N := hd oi hom e.dst hdst
    obtain ⟨E', hf', hk⟩ := depsT_elim Gs E (hobl w hS hB) hf hg fun e' he' hu => by
      have hj' : e'.j ∈ js := by rw [← hjs]; exact List.mem_map_of_mem he'
      obtain ⟨⟨o3, ho3, hd3⟩, _⟩ := hGs e' he'
      have : dstOf ops e'.j = e'.dst := by unfold dstOf; rw [ho3]; simp [hd3]
      obtain ⟨ed, hed, hb, hon⟩ := hus e'.j hj' (by rw [this]; exact hu)
      rw [← hon]
      exact hall ed hed hb
    split at hk
    · rename_i hha
      unfold wpOp
      simp only [hoi]
      rw [if_pos (by simp [Region.wanted, hgd])]
      refine .inl ?_
      unfold Oper.wp
      rw [hasAll_exec hf' hha]
      refine out_upon (opV_out hF hk) (fun v w' hv => ?_) fun v w' hp => .inr ⟨v, rfl, hp, hf.some, hfr⟩
      obtain ⟨hS', hB', hle, x, rfl, hx⟩ := hv
      refine ⟨hS', ih (listed.setIfInBounds i true) (a.put oi.dst (e.ty.v x)) w' fuel ?_ (by omega) (by simpa using hsz) (fun k hk => ?_) (fun k hk => ?_) (hcl.set hi) hS' hB' ?_ (hfr.put hom) ?_⟩
      · have hlti : i < listed.size := by have := hlt i hij; omega
        have hgi : listed.getD i false = false := by simpa [Array.getD, hlti] using hil
        have hpe : ∀ j, (!(listed.setIfInBounds i true).getD j false) = ((!listed.getD j false) && (j != i)) := fun j => by
          by_cases hji : i = j
          · subst hji
            rw [getD_set_eq _ _ _ _ hlti]
            simp
          · rw [getD_set_ne false hji]
            have : (j != i) = true := by simp; omega
            rw [this, Bool.and_true]
        have hfil : (js.filter fun j => !(listed.setIfInBounds i true).getD j false) = (js.filter fun j => !listed.getD j false).erase i := by
          rw [List.Nodup.erase_eq_filter (List.Pairwise.filter _ hnd), List.filter_filter]
          refine List.filter_congr fun j _ => ?_
          rw [hpe, Bool.and_comm]
        rw [hfil, List.length_erase_of_mem (List.mem_filter.2 ⟨hij, by rw [hgi]; rfl⟩), hm]
        rfl
      · by_cases hki : i = k
        · subst hki; exact .inr hij
        · rw [getD_set_ne false hki] at hk; exact hin k hk
      · exact getD_set_true (hback k hk)
      · refine ⟨by have := hf.size; rw [hdst]; simpa [Act.put] using this, fun t u ht => ?_⟩
        obtain ⟨h1, h2⟩ := hf.get t u ht
        have hne : oi.dst ≠ some t := fun h => by
          rw [hdst] at h
          cases h
          rw [hdste] at hEn
          rw [hEn] at ht
          cases ht
        exact ⟨h1, by rw [put_frame hne]; exact h2⟩
      · intro e' he' hl'
        by_cases hee : e'.j = i
        · have hsame : e' = e := by
            have hnd2 : (Gs.map (·.j)).Nodup := by rw [hjs]; exact hnd
            obtain ⟨n1, hn1, g1⟩ := List.mem_iff_getElem.1 he'
            obtain ⟨n2, hn2, g2⟩ := List.mem_iff_getElem.1 he
            have : n1 = n2 := (List.getElem_inj (h₀ := by simpa using hn1) (h₁ := by simpa using hn2) hnd2).1 (by simp [g1, g2, hee, hej])
            subst this
            exact g1.symm.trans g2
          subst hsame
          refine ⟨hdN, x, hx, ?_⟩
          rw [hdst]
          exact getD_set_eq _ _ _ _ (by rw [hf.size]; exact hdN)
        · rw [getD_set_ne false (fun h => hee h.symm)] at hl'
          obtain ⟨h1, y, hy, hv⟩ := hg e' he' hl'
          refine ⟨h1, y, (hGs e' he').2 _ _ _ hle hy, ?_⟩
          have hne : oi.dst ≠ some e'.dst := fun h => by
            rw [hdst] at h
            have h := Option.some.inj h
            obtain ⟨⟨o3, ho3, hd3⟩, _⟩ := hGs e' he'
            have h3 : dstOf ops e'.j = e'.dst := by unfold dstOf; rw [ho3]; simp [hd3]
            have hj' : e'.j ∈ js := by rw [← hjs]; exact List.mem_map_of_mem he'
            obtain ⟨n1, hn1, g1⟩ := List.mem_iff_getElem.1 hj'
            obtain ⟨n2, hn2, g2⟩ := List.mem_iff_getElem.1 hij
            have : n1 = n2 := (List.getElem_inj (h₀ := by simpa using hn1) (h₁ := by simpa using hn2) hdn).1 (by
              simp only [List.getElem_map, g1, g2]
              rw [h3, hdste]
              exact h.symm)
            subst this
            exact hee (g1.symm.trans g2)
          rw [put_frame hne]
          exact hv
    · exact hk.elim

/-! ### Bits in place of arrays -/
theorem hasB_test (m i : Nat) : hasB m i = m.testBit i := by
  unfold hasB
  have e : Nat.land (Nat.shiftRight m i) 1 = (m >>> i) % 2 := Nat.and_one_is_mod _
  rw [e, Nat.testBit_eq_decide_div_mod_eq, Nat.shiftRight_eq_div_pow]
  by_cases h : m / 2 ^ i % 2 = 1
  · rw [h, decide_eq_true rfl]
    rfl
  · rw [decide_eq_false h]
    cases hb : Nat.beq (m / 2 ^ i % 2) 1 with
    | false => rfl
    | true => exact absurd (beq_eq hb) h
theorem hasB_set (m i k : Nat) : hasB (setB m i) k = (hasB m k || decide (i = k)) := by
  rw [hasB_test, hasB_test]
  have e : setB m i = m ||| 1 <<< i := rfl
  rw [e, Nat.testBit_or, Nat.one_shiftLeft, Nat.testBit_two_pow]
theorem hasB_zero (k : Nat) : hasB 0 k = false := by rw [hasB_test]; exact Nat.zero_testBit k
theorem getD_true {l : Array Bool} {k : Nat} (h : k < l.size) : l.getD k true = l.getD k false := by
  rw [Array.getD_eq_getD_getElem?, Array.getD_eq_getD_getElem?, Array.getElem?_eq_getElem h]
  rfl
theorem getD_setB {l : Array Bool} {i k : Nat} (h : i < l.size) : (l.setIfInBounds i true).getD k false = (l.getD k false || decide (i = k)) := by
  by_cases e : i = k
  · subst e
    rw [decide_eq_true rfl, Bool.or_true]
    exact getD_set_eq _ _ _ _ h
  · rw [decide_eq_false e, Bool.or_false]
    exact getD_set_ne' _ _ _ e
/-- The array and the bits say the same. -/
structure Bits (l : Array Bool) (m n : Nat) : Prop where
  size : l.size = n
  get : ∀ k, l.getD k false = hasB m k
theorem Bits.set {l : Array Bool} {m n i : Nat} (h : Bits l m n) (hi : i < n) : Bits (l.setIfInBounds i true) (setB m i) n :=
  ⟨by simpa using h.size, fun k => by rw [getD_setB (by rw [h.size]; exact hi), hasB_set, h.get]⟩
theorem Bits.sets {n : Nat} : ∀ {js : List Nat} {l : Array Bool} {m : Nat}, Bits l m n → (∀ j ∈ js, j < n) → Bits (markJs l js) (setsB m js) n
  | [], _, _, h, _ => h
  | j :: js, l, m, h, hj => show Bits (markJs (l.setIfInBounds j true) js) (setsB (setB m j) js) n from Bits.sets (h.set (hj j List.mem_cons_self)) fun x hx => hj x (List.mem_cons_of_mem _ hx)
theorem allHasB_eq {l : Array Bool} {m n : Nat} (h : Bits l m n) : ∀ es : List Edge, allHasB m es = es.all fun e => !Region.binds .any e || l.getD e.on false
  | [] => rfl
  | e :: r => by
    rw [List.all_cons, ← allHasB_eq h r, h.get]
    show (match Region.binds .any e with
      | true => hasB m e.on && allHasB m r
      | false => allHasB m r) = _
    cases Region.binds .any e <;> rfl
theorem readyAtB_eq {ops : Array Oper} {l : Array Bool} {m : Nat} (h : Bits l m ops.size) {k : Nat} {o : Oper} (ho : ops[k]? = some o) : readyAtB m k o = (!l.getD k true && ((ops[k]?).map (·.after.all fun e => !Region.binds .any e || l.getD e.on false)).getD false) := by
  have hk : k < l.size := by rw [h.size]; exact (Array.getElem?_eq_some_iff.1 ho).1
  rw [getD_true hk, h.get, ho]
  unfold readyAtB
  rw [allHasB_eq h]
  simp
theorem readyLB_eq {ops : Array Oper} {l : Array Bool} {m : Nat} (h : Bits l m ops.size) : readyLB m ops.toList 0 = Region.ready .any ops l := by
  unfold Region.ready
  have key : ∀ (r : List Oper) (k : Nat), ops.toList.drop k = r → readyLB m r k = ((List.range' k r.length).filter fun i => !l.getD i true && ((ops[i]?).map (·.after.all fun e => !Region.binds .any e || l.getD e.on false)).getD false) := by
    intro r
    induction r with
    | nil => intro k _; rfl
    | cons o r ih =>
      intro k hk
      have ho : ops[k]? = some o := by
        have : (ops.toList.drop k)[0]? = some o := by rw [hk]; rfl
        rw [List.getElem?_drop, Nat.add_zero] at this
        simpa using this
      have hr : ops.toList.drop (k + 1) = r := by
        rw [← List.drop_drop, hk]
        rfl
      rw [List.length_cons, List.range'_succ, List.filter_cons, ← readyAtB_eq h ho]
      unfold readyLB
      cases readyAtB m k o with
      | true => rw [if_pos rfl, ih _ hr]
      | false => rw [if_neg (by decide), ih _ hr]
  rw [key ops.toList 0 rfl, List.range_eq_range', Array.length_toList]
theorem freeLB_ok {ops : Array Oper} {l : Array Bool} {m i : Nat} {oi : Oper} (h : Bits l m ops.size) (hi : ops[i]? = some oi) (hf : freeLB ops m i oi ops.toList 0 = true) : Region.free .any ops l i = true := by
  have key : ∀ (r : List Oper) (k : Nat), freeLB ops m i oi r k = true → ∀ (j : Nat) (o : Oper), r[j]? = some o → (Nat.beq (k + j) i || hasB m (k + j) || (o.after.toList.any fun e => Nat.beq e.on i && Region.binds .any e) || oi.apart ops o) = true := by
    intro r
    induction r with
    | nil => intro k _ j o hj; simp at hj
    | cons x r ih =>
      intro k hk j o hj
      unfold freeLB at hk
      rw [Bool.and_eq_true] at hk
      cases j with
      | zero =>
        have : x = o := by simpa using hj
        subst this
        exact hk.1
      | succ j =>
        have := ih (k + 1) hk.2 j o (by simpa using hj)
        rw [show k + (j + 1) = k + 1 + j by omega]
        exact this
  simp only [Region.free, hi, List.all_eq_true, List.mem_range]
  intro j hj
  have hoj : ops[j]? = some ops[j] := Array.getElem?_eq_getElem hj
  have h1 := key _ _ hf j ops[j] (by simp [hj])
  rw [Nat.zero_add] at h1
  rw [hoj]
  simp only [Bool.or_eq_true] at h1 ⊢
  rcases h1 with ((h1 | h1) | h1) | h1
  · have : j = i := by simpa using h1
    exact .inl (.inl (by simpa using this))
  · rw [getD_true (by rw [h.size]; exact hj), h.get]
    exact .inl (.inr h1)
  · refine .inr (.inl ?_)
    rw [← Array.any_toList]
    obtain ⟨e, he, hb⟩ := List.any_eq_true.1 h1
    refine List.any_eq_true.2 ⟨e, he, ?_⟩
    simp only [Bool.and_eq_true] at hb ⊢
    exact ⟨hb.2, by simpa using hb.1⟩
  · exact .inr (.inr h1)
theorem markB_eq {n : Nat} : ∀ (es : List Edge) (l : Array Bool) (m : Nat), l.size = n → (∀ k, k < n → l.getD k false = hasB m k) → (markL es l).size = n ∧ ∀ k, k < n → (markL es l).getD k false = hasB (markB es m) k
  | [], l, m, hs, h => ⟨hs, h⟩
  | e :: r, l, m, hs, h => by
    have hm : markL (e :: r) l = markL r (match Region.binds .any e with | true => l.setIfInBounds e.on true | false => l) := rfl
    rw [hm]
    unfold markB
    cases Region.binds .any e with
    | false => exact markB_eq r l m hs h
    | true =>
      refine markB_eq r _ _ (by simpa using hs) fun k hk => ?_
      rw [hasB_set]
      by_cases ho : e.on < n
      · rw [getD_setB (by rw [hs]; exact ho), h k hk]
      · rw [decide_eq_false (by omega), Bool.or_false, ← h k hk]
        exact getD_set_ne' _ _ _ (by omega)
theorem ancLB_eq {ops : Array Oper} : ∀ (k : Nat) (l : Array Bool) (m : Nat), k ≤ ops.size → l.size = ops.size → (∀ k, k < ops.size → l.getD k false = hasB m k) → ∀ i, i < ops.size → (ancL ops k l).getD i false = hasB (ancLB ops k m) i
  | 0, l, m, _, _, h, i, hi => h i hi
  | k + 1, l, m, hk, hs, h, i, hi => by
    unfold ancL ancLB
    rw [h k (by omega)]
    cases hb : hasB m k with
    | false => exact ancLB_eq k l m (by omega) hs h i hi
    | true =>
      rw [Array.getElem?_eq_getElem (show k < ops.size by omega)]
      obtain ⟨h1, h2⟩ := markB_eq (ops[k]).after.toList l m hs h
      exact ancLB_eq k _ _ (by omega) h1 h2 i hi
theorem ancB_eq {ops : Array Oper} {j i : Nat} (hi : i < ops.size) (h : hasB (ancB ops j) i = true) : anc ops j i = true := by
  unfold ancB at h
  unfold anc
  split at h
  · rename_i o ho
    have hj := (Array.getElem?_eq_some_iff.1 ho).1
    obtain ⟨h1, h2⟩ := markB_eq (n := ops.size) o.after.toList (Array.replicate ops.size false) 0 (by simp) fun k hk => by
      rw [hasB_zero, Array.getD_eq_getD_getElem?, Array.getElem?_replicate, if_pos hk]
      rfl
    rw [ancLB_eq j _ _ (by omega) h1 h2 i hi]
    exact h
  · rw [hasB_zero] at h
    cases h
theorem eqLB_eq : ∀ {l k : List Nat}, eqLB l k = true → l = k
  | [], [], _ => rfl
  | [], _ :: _, h => by simp [eqLB] at h
  | _ :: _, [], h => by simp [eqLB] at h
  | x :: r, y :: q, h => by
    unfold eqLB at h
    rw [Bool.and_eq_true] at h
    rw [beq_eq h.1, eqLB_eq h.2]
theorem odOkB_ok {ops : Array Oper} : ∀ {x : Od} {pre J : List Nat} {m : Nat} {l : Array Bool}, odOkB ops x pre J m = true → Bits l m ops.size → odOk ops x pre J l = true
  | .done, pre, J, m, l, h, hb => by
    unfold odOkB at h
    unfold odOk
    rw [← readyLB_eq hb]
    exact h
  | .take i r, pre, J, m, l, h, hb => by
    unfold odOkB at h
    unfold odOk
    split at h
    · cases h
    · rename_i o ho
      have hi := (Array.getElem?_eq_some_iff.1 ho).1
      simp only [Bool.and_eq_true] at h ⊢
      obtain ⟨⟨⟨⟨h1, h2⟩, h3⟩, h4⟩, h5⟩ := h
      refine ⟨⟨⟨h1, freeLB_ok hb ho h3, ?_⟩, ?_⟩, odOkB_ok h5 (hb.set hi)⟩
      · rw [readyAtB_eq hb ho] at h2
        rw [List.contains_iff_mem]
        exact List.mem_filter.2 ⟨List.mem_range.2 hi, h2⟩
      · rw [Bool.or_eq_true] at h4 ⊢
        rcases h4 with h4 | h4
        · exact .inl h4
        · exact .inr (List.all_eq_true.2 fun j hj => ancB_eq hi (List.all_eq_true.1 h4 j hj))
  | .eff i fl r, pre, J, m, l, h, hb => by
    unfold odOkB at h
    unfold odOk
    rw [Bool.and_eq_true] at h ⊢
    have h1 := eqLB_eq h.1
    rw [readyLB_eq hb] at h1
    have hi : i < ops.size := by
      have : i ∈ Region.ready .any ops l := by rw [h1]; simp
      exact List.mem_range.1 (List.mem_filter.1 this).1
    exact ⟨by rw [h1]; simp, odOkB_ok h.2 (hb.set hi)⟩
  | .effs i fl r more, pre, J, m, l, h, hb => by
    unfold odOkB at h
    unfold odOk
    simp only [Bool.and_eq_true] at h ⊢
    have hi : i < ops.size := by
      have := Nat.le_of_ble_eq_true h.1.1
      omega
    exact ⟨odOkB_ok h.1.2 (hb.set hi), odOkB_ok h.2 hb⟩
  | .mono js r, pre, J, m, l, h, hb => by
    unfold odOkB at h
    unfold odOk
    simp only [Bool.and_eq_true] at h ⊢
    refine ⟨⟨h.1.1, List.all_eq_true.2 fun j hj => ?_⟩, odOkB_ok h.2 (hb.sets fun j hj => ?_)⟩
    · have := List.all_eq_true.1 h.1.2 j hj
      rw [Bool.and_eq_true] at this
      exact this.1
    · have := List.all_eq_true.1 h.1.2 j hj
      rw [Bool.and_eq_true] at this
      have := Nat.le_of_ble_eq_true this.2
      omega
theorem Bits.start (n : Nat) : Bits (Array.replicate n false) 0 n := ⟨by simp, fun k => by
  rw [hasB_zero, Array.getD_eq_getD_getElem?]
  by_cases h : k < n
  · simp [h]
  · simp [h]⟩

theorem heldT_any (hF : CallsOk P F.ok) {ops : Array Oper} {G : Act → World → Prop} (hsel : Region.noSelect ops = true) (hd : dstOk N ops.toList) {K : Env → World → Prop} {a0 : Act}
    (hG : ∀ E' a' w', K E' w' → Fits N E' a' → frame ops.toList a0 a' → G a' w') :
    ∀ (x : Od) (pre : List Nat) (J : List Nat) (S : World → Prop) (listed : Array Bool) (E : Env) (w : World) (a : Act) (fuel : Nat), odOk ops x pre J listed = true → x.depth ≤ fuel → S w → Closed ops listed →
    heldT P F ops x J S listed E w K → Fits N E a → frame ops.toList a0 a →
    (pre = [] → wpAnyK P ops (HQ P F N ops a0 G) J S fuel listed a w) ∧
    (pre ≠ [] → ∀ f, fuel = f + 1 → Region.ready .any ops listed ≠ [] ∧ ∀ i ∈ Region.ready .any ops listed, i ∉ pre →
      if J.contains i = true then wpOp P ops (HQ P F N ops a0 G) i (fun a' w' => wpAny P .any ops (HQ P F N ops a0 G) f (listed.setIfInBounds i true) a' w') a w
      else wpOp P ops (HQ P F N ops a0 G) i (fun a' w' => S w' ∧ wpAnyK P ops (HQ P F N ops a0 G) J S f (listed.setIfInBounds i true) a' w') a w)
  | .done, pre, J, S, listed, E, w, a, fuel, he, _, hS, hcl, h, hf, hfr => by
    unfold heldT at h
    unfold odOk at he
    simp only [Bool.and_eq_true, List.isEmpty_iff] at he
    refine ⟨fun _ => ?_, fun hp => absurd he.1 hp⟩
    cases fuel with
    | zero => exact ⟨he.2, .inl ⟨rfl, hG _ _ _ h hf hfr⟩⟩
    | succ f => exact ⟨fun _ => .inl ⟨rfl, hG _ _ _ h hf hfr⟩, by rw [he.2]; simp⟩
  | .take i r, pre, J, S, listed, E, w, a, fuel, hod, hdp, hS, hcl, h, hf, hfr => by
    unfold heldT at h
    unfold odOk at hod
    obtain ⟨fuel, rfl⟩ : ∃ n, fuel = n + 1 := ⟨fuel - 1, by simp only [Od.depth] at hdp; omega⟩
    have hdp' : r.depth ≤ fuel := by simp only [Od.depth] at hdp; omega
    split at h
    · exact h.elim
    rename_i o ho
    have hmem : o ∈ ops.toList := by
      have := Array.mem_of_getElem? ho
      simpa using this
    have hdo := hd o hmem
    have hfr' : ∀ (v : Value), frame ops.toList a0 (a.put o.dst v) := fun v => hfr.put hmem
    rw [ho] at hod
    dsimp only at hod
    simp only [Bool.and_eq_true, List.isEmpty_iff] at hod
    obtain ⟨⟨⟨hp, hfree, hrd⟩, hJ⟩, hod⟩ := hod
    refine ⟨fun _ => ?_, fun hp' => absurd hp hp'⟩
    have hrd' : i ∈ Region.ready .any ops listed := by simpa using hrd
    have go : ∀ (E' : Env) (v : Value), CanTake P ops J S i o v a → Fits N E' a → heldT P F ops r J S (listed.setIfInBounds i true) (E'.put o.dst v) w K →
        wpAnyK P ops (HQ P F N ops a0 G) J S (fuel + 1) listed a w := fun E' v hy hf' hr =>
      wpAnyK_first ho (Region.noSelect_spec hsel) (fun c a w h => h.unput hmem) fuel listed a w (Region.free_spec ho hfree) hcl hrd' hy hS
        ((heldT_any hF hsel hd hG r [] J S _ _ w _ fuel hod hdp' hS (hcl.set hrd') hr (hf'.put hdo) (hfr' v)).1 rfl)
    rcases gdT_elim h hf with ⟨hw, E', hf', hy⟩ | ⟨hw, E', hf', hn⟩
    · split at hy
      · rename_i hall
        simp only [Bool.and_eq_true] at hall
        cases hl : isLoad o.op with
        | false =>
          obtain ⟨v, h1, h2⟩ := opQ_every hall.2 hl hy
          exact go E' v (.inl (.inl ⟨hw, fun w2 => by rw [hasAll_exec hf' hall.1]; exact h1 w2⟩)) hf' h2
        | true =>
          obtain ⟨v, h1, h2⟩ := opQ_elim hall.2 hy
          refine go E' v (.inr ⟨.inl ⟨hw, fun w2 hw2 => by rw [hasAll_exec hf' hall.1]; exact h1 w2 hw2⟩, fun j hj => ?_⟩) hf' h2
          rw [hl] at hJ
          simp only [Bool.not_true, Bool.false_or, List.all_eq_true] at hJ
          exact hJ j hj
      · exact hy.elim
    · exact go E' undef (.inl (.inr ⟨hw, rfl⟩)) hf' hn
  | .eff i fl r, pre, J, S, listed, E, w, a, fuel, hod, hdp, hS, hcl, h, hf, hfr => by
    unfold heldT at h
    unfold odOk at hod
    obtain ⟨fuel, rfl⟩ : ∃ n, fuel = n + 1 := ⟨fuel - 1, by simp only [Od.depth] at hdp; omega⟩
    have hdp' : r.depth ≤ fuel := by simp only [Od.depth] at hdp; omega
    split at h
    · exact h.elim
    rename_i o ho
    have hmem : o ∈ ops.toList := by
      have := Array.mem_of_getElem? ho
      simpa using this
    have hdo := hd o hmem
    have hfr' : ∀ (v : Value), frame ops.toList a0 (a.put o.dst v) := fun v => hfr.put hmem
    simp only [Bool.and_eq_true] at hod
    obtain ⟨hrd, hod⟩ := hod
    have hpk : ∀ v w', F.pk v w' → HQ P F N ops a0 G (.panic (onePanic v)) a w' := fun v w' hv => .inr ⟨v, rfl, hv, hf.some, hfr⟩
    have hrd : Region.ready .any ops listed = pre ++ [i] := by simpa using hrd
    have hin : i ∈ Region.ready .any ops listed := by rw [hrd]; simp
    have hbr := effT_op (Q := HQ P F N ops a0 G) (fuel := fuel) (listed := listed) hF ho hS hf hdo hpk h fun S E' v w' hk hS' hf' =>
      (heldT_any hF hsel hd hG r [] (fl.getD J) S _ E' w' _ fuel hod hdp' hS' (hcl.set hin) hk hf' (hfr' v)).1 rfl
    have hne : Region.ready .any ops listed ≠ [] := fun h0 => by rw [h0] at hin; cases hin
    refine ⟨fun hp => ⟨fun h0 => absurd h0 hne, fun j hj => ?_⟩, fun hp f hff => ⟨hne, fun j hj hjp => ?_⟩⟩
    · rw [hrd, hp] at hj
      have : j = i := by simpa using hj
      subst this
      exact hbr
    · cases hff
      rw [hrd] at hj
      have : j = i := by
        rcases List.mem_append.1 hj with h | h
        · exact absurd h hjp
        · simpa using h
      subst this
      exact hbr
  | .effs i fl r more, pre, J, S, listed, E, w, a, fuel, hod, hdp, hS, hcl, h, hf, hfr => by
    unfold heldT at h
    unfold odOk at hod
    obtain ⟨fuel, rfl⟩ : ∃ n, fuel = n + 1 := ⟨fuel - 1, by simp only [Od.depth] at hdp; omega⟩
    have hdp' : r.depth ≤ fuel := by simp only [Od.depth] at hdp; omega
    split at h
    · exact h.elim
    rename_i o ho
    have hmem : o ∈ ops.toList := by
      have := Array.mem_of_getElem? ho
      simpa using this
    have hdo := hd o hmem
    have hfr' : ∀ (v : Value), frame ops.toList a0 (a.put o.dst v) := fun v => hfr.put hmem
    obtain ⟨h, hm⟩ := h
    simp only [Bool.and_eq_true] at hod
    have hpk : ∀ v w', F.pk v w' → HQ P F N ops a0 G (.panic (onePanic v)) a w' := fun v w' hv => .inr ⟨v, rfl, hv, hf.some, hfr⟩
    have hbr := fun hin : i ∈ Region.ready .any ops listed => effT_op (Q := HQ P F N ops a0 G) (fuel := fuel) (listed := listed) hF ho hS hf hdo hpk h fun S E' v w' hk hS' hf' =>
        (heldT_any hF hsel hd hG r [] (fl.getD J) S _ E' w' _ fuel hod.1 hdp' hS' (hcl.set hin) hk hf' (hfr' v)).1 rfl
    have hmo := (heldT_any hF hsel hd hG more (pre ++ [i]) J S listed E w a (fuel + 1) hod.2 (by simp only [Od.depth] at hdp; omega) hS hcl hm hf hfr).2 (by simp) fuel rfl
    refine ⟨fun hp => ⟨fun h0 => absurd h0 hmo.1, fun j hj => ?_⟩, fun _ f hff => ⟨hmo.1, fun j hj hjp => ?_⟩⟩
    · by_cases hji : j = i
      · subst hji; exact hbr hj
      · exact hmo.2 j hj (by simp [hp, hji])
    · cases hff
      by_cases hji : j = i
      · subst hji; exact hbr hj
      · exact hmo.2 j hj (by simp [hjp, hji])
  | .mono js r, pre, J, S, listed, E, w, a, fuel, hod, hdp, hS, hcl, h, hf, hfr => by
    unfold heldT at h
    unfold odOk at hod
    split at h
    case h_2 => exact h.elim
    rename_i hok
    simp only [Bool.and_eq_true, List.isEmpty_iff] at hod
    obtain ⟨⟨hp, hJ⟩, hod⟩ := hod
    refine ⟨fun _ => ?_, fun hp' => absurd hp hp'⟩
    obtain ⟨le, B, hB, h⟩ := h
    obtain ⟨Gs, hGs, hjs, hI, hend⟩ := monoG_elim js [] h (fun e he => by cases he)
    simp only [List.map_nil, List.nil_append] at hjs
    have hop := (monoOk_spec hok).2.2.1
    have hnl : ∀ j ∈ js, listed.getD j false = false := fun j hj => by
      obtain ⟨o, _, _, h, _⟩ := hop j hj
      cases hx : listed.getD j false with
      | false => rfl
      | true =>
        have : j < listed.size := by
          rcases Nat.lt_or_ge j listed.size with h' | h'
          · exact h'
          · simp [Array.getElem?_eq_none h'] at h
        simp [Array.getD, this] at h hx
        rw [h] at hx; cases hx
    have hlen : (js.filter fun j => !listed.getD j false).length = js.length := by
      rw [List.filter_eq_self.2 fun j hj => by rw [hnl j hj]; rfl]
    refine mono_any hF (n := r.depth) hd (fun j hj => by simpa using List.all_eq_true.1 hJ j hj) hok hGs hjs hI (fun a' w' fuel' hn hS' hB' hcl' hfr' key => ?_) js.length listed a w fuel hlen (by simpa [Od.depth] using hdp) rfl (fun k hk => .inl hk) (fun k hk => hk) hcl hS hB hf hfr
      fun e he hl => by
        have : e.j ∈ js := by rw [← hjs]; exact List.mem_map_of_mem he
        rw [hnl e.j this] at hl
        cases hl
    obtain ⟨E', hf', hk⟩ := key _ (hend w' hS' hB')
    exact (heldT_any hF hsel hd hG r [] J S _ E' w' a' fuel' hod hn hS' hcl' hk hf' hfr').1 rfl

theorem regT_wp (hF : CallsOk P F.ok) (hm : P.follows .mixedOrders = true) {m : RMode} {id : Nat} {ops : Array Oper} {d : Bool} {E : Env} {w : World} {K : Env → World → Prop} {a : Act}
    (h : regT P F m ops d E w K) (hf : Fits N E a) (hd : dstOk N ops.toList) :
    (Code.region id ops d).wp P (HQ P F N ops a fun a' w' => ∃ E', K E' w' ∧ Fits N E' a' ∧ frame ops.toList a a') a w := by
  unfold regT at h
  split at h
  · exact wp_region_list (opsT_list hF _ _ _ _ _ h hf hd (fun E' a' w' h1 h2 h3 => .inl ⟨rfl, E', h1, h2, h3⟩) fun v a' w' h1 h2 h3 => .inr ⟨v, rfl, h1, h2, h3⟩)
  · split at h
    · rename_i hB
      exact wp_region_still hm hB (opsT_still _ _ w.drew _ _ h hf hd fun E' a' h1 h2 h3 => .inl ⟨rfl, E', h1, h2, h3⟩)
    · exact h.elim
  · rename_i n
    split at h
    · rename_i hB
      obtain ⟨l⟩ := ops
      have s1 : ∀ o ∈ l.take n, o ∈ l := fun o ho => List.mem_of_mem_take ho
      have s2 : ∀ o ∈ l.drop n, o ∈ l := fun o ho => List.mem_of_mem_drop ho
      refine wp_region_still_tail (l := l) n hm hB (opsT_still _ _ w.drew _ _ h hf (fun o ho => hd o (s1 o ho)) fun E' a' h1 h2 h3 => ?_)
      exact opsT_list hF _ _ _ _ _ h1 h2 (fun o ho => hd o (s2 o ho)) (fun E'' a'' w'' g1 g2 g3 => .inl ⟨rfl, E'', g1, g2, (h3.sub s1).trans (g3.sub s2)⟩) fun v a'' w'' g1 g2 g3 => .inr ⟨v, rfl, g1, g2, (h3.sub s1).trans (g3.sub s2)⟩
    · exact h.elim
  · rename_i J o
    split at h
    · rename_i hB
      simp only [Bool.and_eq_true] at hB
      have key : ∀ S : World → Prop, S w.drew → heldT P F ops o J S (Array.replicate ops.size false) E w.drew K →
          (Code.region id ops true).wp P (HQ P F N ops a fun a' w' => ∃ E', K E' w' ∧ Fits N E' a' ∧ frame ops.toList a a') a w := fun S hS h =>
        wp_region_any hm (wpAny_of_K _ _ _ _ ((heldT_any hF hB.1.1 hd (G := fun a' w' => ∃ E', K E' w' ∧ Fits N E' a' ∧ frame ops.toList a a') (fun E' a' w' h1 h2 h3 => ⟨E', h1, h2, h3⟩) o [] J S _ E w.drew a ops.size (odOkB_ok hB.2 (Bits.start _))
          (Nat.le_of_ble_eq_true hB.1.2) hS (Closed.start _ _) h hf (frame.refl _ _)).1 rfl))
      unfold phT at h
      split at h
      · obtain ⟨S, hS, h⟩ := h
        exact key S hS h
      · exact key _ trivial h
    · exact h.elim
  · exact h.elim

/-! ### Code -/

def slotsOk (N : Nat) : Code → Bool
  | .region _ ops _ => ops.toList.all fun o => match o.dst with
    | some d => Nat.blt d N
    | none => true
  | .seq a b => slotsOk N a && slotsOk N b
  | .cond _ a b => slotsOk N a && slotsOk N b
  | .block _ a => slotsOk N a
  | .loop a => slotsOk N a
  | _ => true
theorem slotsOk_dst {ops : Array Oper} {id : Nat} {d : Bool} (h : slotsOk N (.region id ops d) = true) : dstOk N ops.toList := fun o ho t ht => by
  simp only [slotsOk, List.all_eq_true] at h
  have := h o ho
  rw [ht] at this
  have h2 : t + 1 ≤ N := by simpa [Nat.blt] using this
  exact h2
theorem wr_region {ops : Array Oper} {id : Nat} {d : Bool} {t : Nat} (h : wr t (.region id ops d) = false) : ∀ o ∈ ops.toList, o.dst ≠ some t := fun o ho e => by
  simp only [wr, List.any_eq_false] at h
  have := h o ho
  rw [e] at this
  simp at this

def Held (N : Nat) (E : Env) (a : Act) : Prop := ∀ p ∈ E, p.1 < N ∧ a.tmps.getD p.1 undef = p.2
theorem get?_mem {E : Env} {t : Nat} {v : Value} (h : E.get? t = some v) : (t, v) ∈ E := by
  induction E with
  | nil => cases h
  | cons p E ih =>
    obtain ⟨u, x⟩ := p
    simp only [Env.get?] at h
    split at h
    · rename_i hb
      cases h
      rw [beq_eq hb]; exact List.mem_cons_self
    · exact List.mem_cons_of_mem _ (ih h)
theorem Held.fits {E : Env} {a : Act} (h : Held N E a) (hs : a.tmps.size = N) : Fits N E a := ⟨hs, fun t v hv => h (t, v) (get?_mem hv)⟩
theorem zip_held {E : Env} {a : Act} (hf : Fits N E a) : ∀ (ts : List Nat) (vs : List Value), Env.vals E ts = some vs → Held N (Env.zip ts vs) a
  | [], vs, _, p, hp => by cases vs <;> cases hp
  | t :: ts, vs, h, p, hp => by
    simp only [Env.vals] at h
    split at h
    · rename_i v vs' hv hvs
      cases h
      rcases List.mem_cons.1 hp with rfl | hp
      · exact hf.get _ _ hv
      · exact zip_held hf ts vs' hvs p hp
    · cases h
theorem keep_held {E : Env} {a a' : Act} (hf : Fits N E a) : ∀ (ks : List Nat), (∀ t ∈ ks, a'.tmps.getD t undef = a.tmps.getD t undef) → Held N (Env.keep E ks) a'
  | [], _, p, hp => by cases hp
  | t :: ks, h, p, hp => by
    have ih := keep_held hf ks fun u hu => h u (List.mem_cons_of_mem _ hu)
    simp only [Env.keep] at hp
    split at hp
    · rename_i v hv
      rcases List.mem_cons.1 hp with rfl | hp
      · obtain ⟨h1, h2⟩ := hf.get _ _ hv
        exact ⟨h1, by rw [h t List.mem_cons_self]; exact h2⟩
      · exact ih p hp
    · exact ih p hp
theorem keepOk_wr {keep : List Nat} {c : Code} (h : keepOk keep c = true) : ∀ t ∈ keep, wr t c = false := fun t ht => by
  simpa using List.all_eq_true.1 h t ht
theorem stGet_elim {live : List (Nat × Ty)} {E : Env} {K : Sg (live.map (·.2)) → Prop} (h : stGet live E K) :
    ∃ s, K s ∧ ∀ a, Fits N E a → Held N (stPut live s) a := by
  unfold stGet at h
  split at h
  · rename_i vs hvs
    split at h
    · rename_i s hs
      refine ⟨s, h, fun a hf => ?_⟩
      unfold stPut
      rw [Sg.get?_vals _ _ _ hs]
      exact zip_held hf _ _ hvs
    · exact h.elim
  · exact h.elim
theorem append_fits {A B : Env} {a : Act} (hA : Held N A a) (hB : Held N B a) (hs : a.tmps.size = N) : Fits N (A ++ B) a :=
  Held.fits (fun p hp => (List.mem_append.1 hp).elim (hA p) (hB p)) hs

/-- The slots that code c does not write are as before. -/
def Same (c : Code) (a0 a' : Act) : Prop := (∀ t, wr t c = false → a'.tmps.getD t undef = a0.tmps.getD t undef) ∧ a'.defers = a0.defers
theorem Same.refl (c : Code) (a : Act) : Same c a a := ⟨fun _ _ => rfl, rfl⟩
theorem Same.sub {c d : Code} {a b : Act} (h : Same c a b) (hs : ∀ t, wr t d = false → wr t c = false) : Same d a b := ⟨fun t ht => h.1 t (hs t ht), h.2⟩
theorem Same.trans {c : Code} {a b e : Act} (h : Same c a b) (k : Same c b e) : Same c a e := ⟨fun t ht => by rw [k.1 t ht]; exact h.1 t ht, by rw [k.2]; exact h.2⟩
def Post (N : Nat) (F : Fx) (c : Code) (K : Exit → Env → World → Prop) (a0 : Act) (e : Exit) (a' : Act) (w' : World) : Prop :=
  (∃ E', K e E' w' ∧ Fits N E' a' ∧ Same c a0 a') ∨ ∃ v, e = .panic (onePanic v) ∧ F.pk v w' ∧ Fits N [] a' ∧ Same c a0 a'

theorem rho_bool {E : Env} {a : Act} (hf : Fits N E a) {x : Operand} {b : Bool} (h : E.rho x = .bool b) : a.eval x = .bool b := by
  rw [← h]
  refine hf.rho ?_
  cases x with
  | tmp t =>
    simp only [Env.has]
    cases hg : E.get? t with
    | none => simp [Env.rho, hg, undef] at h
    | some v => rfl
  | _ => rfl

theorem codeT_wp (hF : CallsOk P F.ok) (hm : P.follows .mixedOrders = true) : ∀ (c : Code) (pl : Plan) (E : Env) (w : World) (K : Exit → Env → World → Prop) (a : Act),
    codeT P F pl c E w K → Fits N E a → slotsOk N c = true → c.wp P (Post N F c K a) a w := by
  intro c
  induction c with
  | region id ops d =>
    intro pl E w K a h hf hs
    cases pl <;> try exact (show False from h).elim
    rename_i m
    have hfs : ∀ {a' : Act}, frame ops.toList a a' → Same (.region id ops d) a a' := fun h => ⟨fun t ht => h.1 t (wr_region ht), h.2⟩
    refine wp_mono (regT_wp hF hm h hf (slotsOk_dst hs)) fun e a' w' hq => ?_
    rcases hq with ⟨he, E', h1, h2, h3⟩ | ⟨v, he, h1, h2, h3⟩
    · exact .inl ⟨E', by subst he; exact h1, h2, hfs h3⟩
    · exact .inr ⟨v, he, h1, h2, hfs h3⟩
  | skip =>
    intro pl E w K a h hf hs
    cases pl <;> try exact (show False from h).elim
    exact wp_skip (.inl ⟨E, h, hf, Same.refl _ _⟩)
  | label l =>
    intro pl E w K a h hf hs
    cases pl <;> try exact (show False from h).elim
    exact wp_label (.inl ⟨E, h, hf, Same.refl _ _⟩)
  | exit id =>
    intro pl E w K a h hf hs
    cases pl <;> try exact (show False from h).elim
    exact wp_exit (.inl ⟨E, h, hf, Same.refl _ _⟩)
  | ret =>
    intro pl E w K a h hf hs
    cases pl <;> try exact (show False from h).elim
    exact wp_ret (.inl ⟨E, h, hf, Same.refl _ _⟩)
  | seq c d ihc ihd =>
    intro pl E w K a h hf hs
    simp only [slotsOk, Bool.and_eq_true] at hs
    have wrs : ∀ t, wr t (.seq c d) = false → wr t c = false ∧ wr t d = false := fun t ht => by simpa [wr] using ht
    have sc : ∀ {a b : Act}, Same c a b → Same (.seq c d) a b := fun h => h.sub fun t ht => (wrs t ht).1
    have sd : ∀ {a b : Act}, Same d a b → Same (.seq c d) a b := fun h => h.sub fun t ht => (wrs t ht).2
    have post : ∀ {a' : Act} {e : Exit} {a'' : Act} {w'' : World}, Same c a a' → Post N F d K a' e a'' w'' → Post N F (.seq c d) K a e a'' w'' := fun h3 hq => by
      rcases hq with ⟨E'', g1, g2, g3⟩ | ⟨v, g0, g1, g2, g3⟩
      · exact .inl ⟨E'', g1, g2, (sc h3).trans (sd g3)⟩
      · exact .inr ⟨v, g0, g1, g2, (sc h3).trans (sd g3)⟩
    cases pl <;> try exact (show False from h).elim
    · rename_i p q
      refine wp_seq (wp_mono (ihc p E w _ a h hf hs.1) fun e a' w' hq => ?_)
      rcases hq with ⟨E', h1, h2, h3⟩ | ⟨v, rfl, h1, h2, h3⟩
      · cases e <;> try exact .inl ⟨E', h1, h2, sc h3⟩
        exact wp_mono (ihd q E' w' K a' h1 h2 hs.2) fun e a'' w'' hq => post h3 hq
      · exact .inr ⟨v, rfl, h1, h2, sc h3⟩
    · rename_i live keep p q
      replace h : match keepOk keep c with
        | true => Join (fun s w => codeT P F q d (stPut live s ++ Env.keep E keep) w K) fun J => codeT P F p c E w fun e E w => match e with
          | .normal => stGet live E fun s => J s w
          | e => K e E w
        | false => False := h
      split at h
      · rename_i hk
        obtain ⟨J, hb, hfr⟩ := h
        refine wp_seq (wp_mono (ihc p E w _ a hfr hf hs.1) fun e a' w' hq => ?_)
        rcases hq with ⟨E', h1, h2, h3⟩ | ⟨v, rfl, h1, h2, h3⟩
        · cases e <;> try exact .inl ⟨E', h1, h2, sc h3⟩
          obtain ⟨s, hJ, hst⟩ := stGet_elim (N := N) h1
          have hfit : Fits N (stPut live s ++ Env.keep E keep) a' := append_fits (hst a' h2) (keep_held hf keep fun t ht => h3.1 t (keepOk_wr hk t ht)) h2.size
          exact wp_mono (ihd q _ w' K a' (hb s w' hJ) hfit hs.2) fun e a'' w'' hq => post h3 hq
        · exact .inr ⟨v, rfl, h1, h2, sc h3⟩
      · exact h.elim
  | cond x c d ihc ihd =>
    intro pl E w K a h hf hs
    simp only [slotsOk, Bool.and_eq_true] at hs
    have wrs : ∀ t, wr t (.cond x c d) = false → wr t c = false ∧ wr t d = false := fun t ht => by simpa [wr] using ht
    have sc : ∀ {a b : Act}, Same c a b → Same (.cond x c d) a b := fun h => h.sub fun t ht => (wrs t ht).1
    have sd : ∀ {a b : Act}, Same d a b → Same (.cond x c d) a b := fun h => h.sub fun t ht => (wrs t ht).2
    cases pl <;> try exact (show False from h).elim
    rename_i p q
    replace h : match E.rho x with
      | .bool b => Br b (codeT P F p c E w K) (codeT P F q d E w K)
      | _ => False := h
    split at h
    · rename_i b hb
      rcases Br_elim h with ⟨rfl, h⟩ | ⟨rfl, h⟩
      · refine wp_cond_true (rho_bool hf hb) (wp_mono (ihc p E w K a h hf hs.1) fun e a' w' hq => ?_)
        rcases hq with ⟨E', h1, h2, h3⟩ | ⟨v, h0, h1, h2, h3⟩
        · exact .inl ⟨E', h1, h2, sc h3⟩
        · exact .inr ⟨v, h0, h1, h2, sc h3⟩
      · refine wp_cond_false (rho_bool hf hb) (wp_mono (ihd q E w K a h hf hs.2) fun e a' w' hq => ?_)
        rcases hq with ⟨E', h1, h2, h3⟩ | ⟨v, h0, h1, h2, h3⟩
        · exact .inl ⟨E', h1, h2, sd h3⟩
        · exact .inr ⟨v, h0, h1, h2, sd h3⟩
    · exact h.elim
  | block id c ih =>
    intro pl E w K a h hf hs
    have sc : ∀ {a b : Act}, Same c a b → Same (.block id c) a b := fun h => h.sub fun t ht => by simpa [wr] using ht
    cases pl <;> try exact (show False from h).elim
    rename_i p
    refine wp_block (wp_mono (ih p E w _ a h hf hs) fun e a' w' hq => ?_)
    rcases hq with ⟨E', h1, h2, h3⟩ | ⟨v, rfl, h1, h2, h3⟩
    · cases e with
      | exit i =>
        replace h1 : match Nat.beq i id with
          | true => K .normal E' w'
          | false => K (.exit i) E' w' := h1
        show if i = id then _ else _
        cases hb : Nat.beq i id with
        | true => rw [hb] at h1; rw [if_pos (beq_eq hb)]; exact .inl ⟨E', h1, h2, sc h3⟩
        | false => rw [hb] at h1; rw [if_neg (fun e => by subst e; simp at hb)]; exact .inl ⟨E', h1, h2, sc h3⟩
      | _ => exact .inl ⟨E', h1, h2, sc h3⟩
    · exact .inr ⟨v, rfl, h1, h2, sc h3⟩
  | loop c ih =>
    intro pl E w K a h hf hs
    have sc : ∀ {a b : Act}, Same c a b → Same (.loop c) a b := fun h => h.sub fun t ht => by simpa [wr] using ht
    cases pl <;> try exact (show False from h).elim
    rename_i live keep p
    replace h : match keepOk keep c with
      | true => stGet live E fun s0 => Lp (fun R s w => codeT P F p c (stPut live s ++ Env.keep E keep) w fun e E w => match e with
        | .normal => stGet live E fun s => R s w
        | e => K e E w) s0 w
      | false => False := h
    split at h
    · rename_i hk
      obtain ⟨s0, ⟨I, n0, h0, hround⟩, hst0⟩ := stGet_elim (N := N) h
      refine wp_loop_ghost (fun n a' w' => ∃ s, I n s w' ∧ Fits N (stPut live s ++ Env.keep E keep) a' ∧ Same c a a') n0
        ⟨s0, h0, append_fits (hst0 a hf) (keep_held hf keep fun _ _ => rfl) hf.size, Same.refl _ _⟩ ?_
      rintro n a' w' ⟨s, hI, hfit, hfr⟩
      refine wp_mono (ih p _ w' _ a' (hround n s w' hI) hfit hs) fun e a'' w'' hq => ?_
      rcases hq with ⟨E'', g1, g2, g3⟩ | ⟨v, rfl, g1, g2, g3⟩
      · have hfr' := hfr.trans g3
        cases e <;> try exact .inl ⟨E'', g1, g2, sc hfr'⟩
        obtain ⟨s', ⟨n', hlt, hI'⟩, hst⟩ := stGet_elim (N := N) g1
        exact ⟨n', hlt, s', hI', append_fits (hst a'' g2) (keep_held hf keep fun t ht => hfr'.1 t (keepOk_wr hk t ht)) g2.size, hfr'⟩
      · exact .inr ⟨v, rfl, g1, g2, sc (hfr.trans g3)⟩
    · exact h.elim
  | _ =>
    intro pl E w K a h hf hs
    cases pl <;> exact (show False from h).elim

/-! ### A function -/

theorem mapM_cells {f : ResultVar → Sem Value} {w : World} : ∀ (l : List ResultVar) (vs : List Value), (∀ (i : Nat) (r : ResultVar) (v : Value), l[i]? = some r → vs[i]? = some v → (f r).run P w = .ok v w) → l.length = vs.length →
    (l.mapM f).run P w = .ok vs w
  | [], [], _, _ => rfl
  | [], _ :: _, _, h => by cases h
  | _ :: _, [], _, h => by cases h
  | r :: l, v :: vs, h, hl => by
    have h0 := h 0 r v rfl rfl
    have ih := mapM_cells l vs (fun i r v h1 h2 => h (i + 1) r v (by simpa using h1) (by simpa using h2)) (by simpa using hl)
    simp only [List.mapM_cons, Sem.run_bind, h0, Result.andThen_ok, ih, Sem.run_pure]

def resF (a : Act) (r : ResultVar) : Sem Value := match r with
  | .tmp t => pure (a.tmps.getD t undef)
  | .cell t ty => do loadVar ty (← asAddr (a.tmps.getD t undef))
theorem resT_run {E : Env} {w : World} {a : Act} (hf : Fits N E a) : ∀ (l : List ResultVar) (K : List Value → Prop), resT P l E w K →
    ∃ vs : List Value, l.length = vs.length ∧ (∀ (i : Nat) (r : ResultVar) (v : Value), l[i]? = some r → vs[i]? = some v → (resF a r).run P w = .ok v w) ∧ K vs
  | [], K, h => ⟨[], rfl, by simp, h⟩
  | .tmp t :: l, K, h => by
    simp only [resT] at h
    split at h
    · rename_i v hv
      obtain ⟨vs, h1, h2, h3⟩ := resT_run hf l _ h
      refine ⟨v :: vs, by simp [h1], fun i r u hi hu => ?_, h3⟩
      cases i with
      | zero =>
        simp only [List.getElem?_cons_zero, Option.some.injEq] at hi hu
        subst hi hu
        simp only [resF, Sem.run_pure, (hf.get t v hv).2]
      | succ i => exact h2 i r u (by simpa using hi) (by simpa using hu)
    · exact h.elim
  | .cell t ty :: l, K, h => by
    simp only [resT] at h
    split at h
    · rename_i x hx
      obtain ⟨v, g1, g2⟩ := ldV_run h
      obtain ⟨vs, h1, h2, h3⟩ := resT_run hf l _ g2
      refine ⟨v :: vs, by simp [h1], fun i r u hi hu => ?_, h3⟩
      cases i with
      | zero =>
        simp only [List.getElem?_cons_zero, Option.some.injEq] at hi hu
        subst hi hu
        have hxa : ∃ b, x = .pointer (some b) := by
          unfold ldV at h
          split at h
          · exact ⟨_, rfl⟩
          · exact h.elim
        obtain ⟨b, rfl⟩ := hxa
        simp only [Instr.loadAt, Instr.sureAddr, Sem.run_bind, Sem.run_pure, Result.andThen_ok] at g1
        simp only [resF, (hf.get t _ hx).2, asAddr, Sem.run_bind, Sem.run_pure, Result.andThen_ok, g1]
      | succ i => exact h2 i r u (by simpa using hi) (by simpa using hu)
    · exact h.elim

theorem env0_held {a : Act} : ∀ (l : List Value) (i : Nat), (∀ j v, l[j]? = some v → i + j < N ∧ a.tmps.getD (i + j) undef = v) → Held N (env0 i l) a
  | [], _, _, p, hp => by cases hp
  | v :: l, i, h, p, hp => by
    rcases List.mem_cons.1 hp with rfl | hp
    · exact h 0 v rfl
    · exact env0_held l (i + 1) (fun j u hj => by have := h (j + 1) u (by simpa using hj); rw [show i + 1 + j = i + (j + 1) by omega]; exact this) p hp

theorem retV_eq (vs : List Value) : (if h : vs.toArray.size = 1 then vs.toArray[0] else Value.tuple vs.toArray) = callV.retV vs := by
  match vs with
  | [] => rfl
  | [v] => rfl
  | _ :: _ :: _ => simp [callV.retV]

theorem fits0 {n : Nat} {args : List Value} (hle : args.length ≤ n) : Fits n (env0 0 args) { tmps := args.toArray ++ Array.replicate (n - args.toArray.size) undef, defers := [] } := by
  refine Held.fits (env0_held args 0 fun j v hj => ?_) (by simp; omega)
  have hlt : j < args.length := (List.getElem?_eq_some_iff.1 hj).1
  refine ⟨by omega, ?_⟩
  have hv : args[j] = v := (List.getElem?_eq_some_iff.1 hj).2
  simp [Array.getD, hlt, hv]
  intro h'
  omega
theorem fin_run {fn : Func} {E' : Env} {a' : Act} {w' : World} {tys : List Ty} {R : Sg tys → World → Prop} (hfit : Fits N E' a') (h : finT P fn tys R E' w') :
    ∃ v, (results fn a'.tmps).run P w' = .ok v w' ∧ ∃ s : Sg tys, Ending.returned v = .returned (callV.retV (Sg.vals tys s)) ∧ R s w' := by
  obtain ⟨vs, g1, g2, g3⟩ := resT_run hfit _ _ h
  split at g3
  · rename_i s hs
    refine ⟨callV.retV vs, ?_, s, by rw [Sg.get?_vals _ _ _ hs], g3⟩
    have e : results fn a'.tmps = (do
        let vs ← fn.results.mapM (resF a')
        pure (if h : vs.size = 1 then vs[0] else .tuple vs)) := rfl
    rw [e, Array.mapM_eq_mapM_toList]
    have := mapM_cells (P := P) (w := w') fn.results.toList vs g2 g1
    simp only [Sem.run_bind, Sem.run_map, this, Result.andThen_ok, Sem.run_pure, retV_eq]
  · exact g3.elim
/-- **The formula of a whole function implies what a call of it does.** -/
theorem fn_callsP {ok may : Nat → Bool} {pk : Value → World → Prop} (hF : CallsOk P ok) (hm : P.follows .mixedOrders = true) {f : FuncId} {fn : Func} {pl : Plan} {args : List Value} {w : World} {tys : List Ty} {R : Sg tys → World → Prop}
    (hf : P.funcs[f]? = some fn) (hN : (match fn.body with
      | some c => slotsOk fn.ntmps c
      | none => false) = true) (ha : Nat.ble args.length fn.ntmps = true)
    (h : fnT P ⟨ok, may, pk⟩ pl fn args w tys R) : Calls P f args.toArray w fun e w' => (∃ s : Sg tys, e = .returned (callV.retV (Sg.vals tys s)) ∧ R s w') ∨ ∃ v, e = .panicked (onePanic v) ∧ pk v w' := by
  unfold fnT at h
  split at h
  · exact h.elim
  · rename_i c hc
    rw [hc] at hN
    refine calls_of_wp hf hc ?_
    refine wp_mono (codeT_wp (F := ⟨ok, may, pk⟩) hF hm c pl _ w _ _ h (fits0 (Nat.le_of_ble_eq_true ha)) hN) fun e a' w' hq => ?_
    rcases hq with ⟨E', h1, h2, h3⟩ | ⟨v, rfl, h1, h2, h3⟩
    · have fin : finT P fn tys R E' w' → a'.defers = [] ∧ ∃ v, (results fn a'.tmps).run P w' = .ok v w' ∧ ((∃ s : Sg tys, Ending.returned v = .returned (callV.retV (Sg.vals tys s)) ∧ R s w') ∨ ∃ u, Ending.returned v = .panicked (onePanic u) ∧ pk u w') := fun h => by
        obtain ⟨v, g1, g2⟩ := fin_run h2 h
        exact ⟨h3.2, v, g1, .inl g2⟩
      cases e with
      | normal => exact fin h1
      | ret => exact fin h1
      | _ => exact h1.elim
    · exact ⟨h3.2, .inr ⟨v, rfl, h1⟩⟩
theorem fn_calls {ok may : Nat → Bool} (hF : CallsOk P ok) (hm : P.follows .mixedOrders = true) {f : FuncId} {fn : Func} {pl : Plan} {args : List Value} {w : World} {tys : List Ty} {R : Sg tys → World → Prop}
    (hf : P.funcs[f]? = some fn) (hN : (match fn.body with
      | some c => slotsOk fn.ntmps c
      | none => false) = true) (ha : Nat.ble args.length fn.ntmps = true)
    (h : fnT P ⟨ok, may, fun _ _ => False⟩ pl fn args w tys R) : Calls P f args.toArray w fun e w' => ∃ s : Sg tys, e = .returned (callV.retV (Sg.vals tys s)) ∧ R s w' :=
  (fn_callsP hF hm hf hN ha h).mono fun e w' he => he.elim id fun ⟨_, _, h⟩ => h.elim
end
end Sh
end Go.Proofs.YtpkadliieplblaaDoor
