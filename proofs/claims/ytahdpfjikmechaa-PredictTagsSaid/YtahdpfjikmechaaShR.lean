/- Regions, code and whole functions: the formula of 'Sh' implies the model's own account. Conditions: the functions that may be called have a body; every slot lies inside the frame; the program follows 'mixedOrders'. -/
import Derived.Test.YtahdpfjikmechaaShC
import Derived.Deep.LoopGhost
namespace Go.Proofs.Ytahdpfjikmechaa
namespace Sh
section
variable {P : Program} {F : Nat → Bool} {N : Nat}

theorem out_upon {o : Oper} {a : Act} {next : Act → World → Prop} {Q : Exit → Act → World → Prop} {K : Value → World → Prop} {r : Result Next} (h : Out P K r)
    (hk : ∀ v w', K v w' → next (a.put o.dst v) w') : o.upon P a next Q r := by
  cases r with
  | halt x w => exact h.elim
  | ok n w =>
    cases n <;> try exact h.elim
    case value v => exact hk _ _ h
    case skip => exact hk _ _ h
    case enter f args =>
      refine Calls.mono h fun e w' he => ?_
      obtain ⟨v, rfl, hv⟩ := he
      exact hk _ _ hv

theorem fits_bool {E : Env} {a : Act} (h : Fits N E a) {s : Nat} {b : Bool} (hs : E.get? s = some (.bool b)) : a.tmps[s]? = some (.bool b) ∧ s < N := by
  obtain ⟨hlt, hg⟩ := h.get s _ hs
  have : s < a.tmps.size := by rw [h.size]; exact hlt
  refine ⟨?_, hlt⟩
  rw [Array.getElem?_eq_getElem this]
  simpa [Array.getD, this] using hg

theorem gdT_elim {ops : Array Oper} {E : Env} {o : Oper} {yes no : Env → Prop} {a : Act} (h : gdT ops E o yes no) (hf : Fits N E a) :
    (Region.wanted o (yielded ops a.tmps) = true ∧ ∃ E', Fits N E' a ∧ yes E') ∨ (Region.wanted o (yielded ops a.tmps) = false ∧ ∃ E', Fits N E' a ∧ no E') := by
  unfold gdT at h
  split at h
  · rename_i hg
    exact .inl ⟨by simp [Region.wanted, hg], E, hf, h⟩
  · rename_i j want hg
    split at h
    · rename_i s hs
      split at h
      · rename_i b hb
        obtain ⟨h1, h2⟩ := fits_bool hf hb
        have hy : yielded ops a.tmps j = some b := by simp [yielded, hs, h1]
        have hv : a.tmps.getD s undef = .bool b := (hf.get s _ hb).2
        split at h <;> rcases Br_elim h with ⟨rfl, h⟩ | ⟨rfl, h⟩
        · exact .inl ⟨by simp [Region.wanted, hg, hy], _, hf.cons h2 hv, h⟩
        · exact .inr ⟨by simp [Region.wanted, hg, hy], _, hf.cons h2 hv, h⟩
        · exact .inr ⟨by simp [Region.wanted, hg, hy], _, hf.cons h2 hv, h⟩
        · exact .inl ⟨by simp [Region.wanted, hg, hy], _, hf.cons h2 hv, h⟩
      · rename_i vs hb
        obtain ⟨hlt, hv⟩ := hf.get s _ hb
        have hlt' : s < a.tmps.size := by rw [hf.size]; exact hlt
        have h1 : a.tmps[s]? = some (.tuple vs) := by
          rw [Array.getElem?_eq_getElem hlt']
          simpa [Array.getD, hlt'] using hv
        have hy : yielded ops a.tmps j = none := by simp [yielded, hs, h1]
        exact .inr ⟨by simp [Region.wanted, hg, hy], E, hf, h⟩
      · exact h.elim
    · exact h.elim

def dstOk (N : Nat) (l : List Oper) : Prop := ∀ o ∈ l, ∀ d, o.dst = some d → d < N
def frame (l : List Oper) (a a' : Act) : Prop := ∀ t, (∀ o ∈ l, o.dst ≠ some t) → a'.tmps.getD t undef = a.tmps.getD t undef

theorem frame_cons {o : Oper} {l : List Oper} {a a' : Act} {v : Value} (h : frame l (a.put o.dst v) a') : frame (o :: l) a a' := fun t ht => by
  rw [h t fun p hp => ht p (List.mem_cons_of_mem _ hp)]
  exact put_frame (ht o List.mem_cons_self)

theorem opsT_list (hF : CallsOk P F) {ops : Array Oper} {Q : Exit → Act → World → Prop} : ∀ (l : List Oper) (E : Env) (w : World) (K : Env → World → Prop) (a : Act),
    opsT P F false ops l E w K → Fits N E a → dstOk N l → (∀ E' a' w', K E' w' → Fits N E' a' → frame l a a' → Q .normal a' w') → wpList P ops Q l a w
  | [], E, w, K, a, h, hf, _, hQ => hQ E a w h hf fun _ _ => rfl
  | o :: r, E, w, K, a, h, hf, hd, hQ => by
    have hd' : dstOk N r := fun p hp => hd p (List.mem_cons_of_mem _ hp)
    have ho := hd o List.mem_cons_self
    unfold wpList
    rcases gdT_elim h hf with ⟨hw, E', hf', hy⟩ | ⟨hw, E', hf', hn⟩
    · rw [if_pos hw]
      refine .inl ?_
      split at hy
      · rename_i hb
        simp only [Bool.and_eq_true] at hb
        unfold Oper.wp
        rw [hasAll_exec hf' hb.1]
        refine out_upon (opV_out hF hy) fun v w' hk => ?_
        exact opsT_list hF r _ w' K _ hk (hf'.put ho) hd' fun E'' a' w'' h1 h2 h3 => hQ _ _ _ h1 h2 (frame_cons h3)
      · exact hy.elim
    · rw [if_neg (by rw [hw]; simp)]
      exact opsT_list hF r _ w K _ hn (hf'.put ho) hd' fun E'' a' w'' h1 h2 h3 => hQ _ _ _ h1 h2 (frame_cons h3)

theorem opV_still {E : Env} {w : World} {K : Value → World → Prop} {o : Oper} (hs : stillOp P o.op = true) (h : opV P F true E o w K) : ∃ v, (execOp E.rho o).run P w = .ok (.value v) w ∧ K v w := by
  by_cases hl : ∃ t x, o.op = .load t x
  · obtain ⟨t, x, hl⟩ := hl
    obtain ⟨dst, op, type, pos, after, guard⟩ := o
    simp only at hl
    subst hl
    replace h : ldV P t (E.rho x) w fun v => K v w := h
    obtain ⟨v, h1, h2⟩ := ldV_run h
    exact ⟨v, by simp only [execOp, Sem.run_bind, h1, Result.andThen_ok, Sem.run_pure], h2⟩
  · obtain ⟨v, h1, h2⟩ := opV_q hs (fun t x e => hl ⟨t, x, e⟩) h
    exact ⟨v, h1 w, h2⟩

theorem opsT_still {ops : Array Oper} {Q : Act → Prop} : ∀ (l : List Oper) (E : Env) (w : World) (K : Env → World → Prop) (a : Act),
    opsT P F true ops l E w K → Fits N E a → dstOk N l → (∀ E' a', K E' w → Fits N E' a' → frame l a a' → Q a') → wpStill P ops w Q l a
  | [], E, w, K, a, h, hf, _, hQ => hQ E a h hf fun _ _ => rfl
  | o :: r, E, w, K, a, h, hf, hd, hQ => by
    have hd' : dstOk N r := fun p hp => hd p (List.mem_cons_of_mem _ hp)
    have ho := hd o List.mem_cons_self
    unfold wpStill
    rcases gdT_elim h hf with ⟨hw, E', hf', hy⟩ | ⟨hw, E', hf', hn⟩
    · rw [if_pos hw]
      split at hy
      · rename_i hb
        simp only [Bool.and_eq_true, Bool.not_true, Bool.false_or] at hb
        obtain ⟨v, h1, h2⟩ := opV_still hb.2 hy
        unfold Oper.still
        rw [hasAll_exec hf' hb.1, h1]
        exact ⟨rfl, opsT_still r _ w K _ h2 (hf'.put ho) hd' fun E'' a' h1 h2 h3 => hQ _ _ h1 h2 (frame_cons h3)⟩
      · exact hy.elim
    · rw [if_neg (by rw [hw]; simp)]
      exact opsT_still r _ w K _ hn (hf'.put ho) hd' fun E'' a' h1 h2 h3 => hQ _ _ h1 h2 (frame_cons h3)

theorem ldLQ_run {S : World → Prop} {a : Addr} {K : List Value → Prop} : ∀ (ts : List Ty1) (i : Nat), ldLQ S a i ts K →
    ∃ l : List Value, l.length = ts.length ∧ (∀ w, S w → ∀ j v, l[j]? = some v → w.cell? (a.add (i + j)) = some v) ∧ K l
  | [], _, h => ⟨[], rfl, by simp, h⟩
  | t :: ts, i, h => by
    obtain ⟨x, hx, hr⟩ := h
    obtain ⟨l, h1, h2, h3⟩ := ldLQ_run ts (i + 1) hr
    refine ⟨t.v x :: l, by simp [h1], fun w hw j v hj => ?_, h3⟩
    cases j with
    | zero => simp at hj; subst hj; simpa using hx w hw
    | succ j => have := h2 w hw j v (by simpa using hj); rw [show i + (j + 1) = i + 1 + j by omega]; exact this

theorem opQ_elim {S : World → Prop} {E : Env} {w : World} {K : Value → Prop} {o : Oper} (hs : stillOp P o.op = true) (h : opQ P F S E o w K) :
    ∃ v, (∀ w2, S w2 → (execOp E.rho o).run P w2 = .ok (.value v) w2) ∧ K v := by
  by_cases hl : ∃ t x, o.op = .load t x
  · obtain ⟨t, x, hl⟩ := hl
    obtain ⟨dst, op, type, pos, after, guard⟩ := o
    simp only at hl
    subst hl
    replace h : ldQ P S t (E.rho x) K := h
    unfold ldQ at h
    split at h
    · rename_i a hx
      have e : ∀ v w2, (loadVar t a).run P w2 = .ok v w2 → (execOp E.rho { dst := dst, op := .load t x, type := type, pos := pos, after := after, guard := guard }).run P w2 = .ok (.value v) w2 := fun v w2 hv => by
        simp only [execOp, hx, Instr.loadAt, Instr.sureAddr, Sem.run_bind, Sem.run_pure, Result.andThen_ok, hv]
      split at h
      · rename_i d n hd hn
        split at h
        · rename_i hg
          obtain ⟨v, h1, h2⟩ := h
          refine ⟨_, fun w2 hw => e _ _ ?_, h2⟩
          simp only [loadVar, Sem.run_bind, run_isAgg hd, hg, Result.andThen_ok, Bool.false_eq_true, if_false, run_loadOne (h1 w2 hw)]
        · rename_i hg
          split at h
          · rename_i ts _
            split at h
            · rename_i hlen
              obtain ⟨l, h1, h2, h3⟩ := ldLQ_run ts 0 h
              refine ⟨_, fun w2 hw => e _ _ ?_, h3⟩
              have hl : l.length = n := by rw [h1]; exact beq_eq hlen
              have := run_loadCells_list (P := P) w2 a l (fun j v hj => by simpa using h2 w2 hw j v hj)
              simp only [loadVar, Sem.run_bind, run_isAgg hd, hg, Result.andThen_ok, if_true, run_size hn, ← hl, this, Sem.run_pure]
            · exact h.elim
          · obtain ⟨v, h1, h2⟩ := h
            exact ⟨v, fun w2 hw => e _ _ (h1 w2 hw), h2⟩
      · exact h.elim
    · exact h.elim
  · have h' : opV P F true E o w fun v _ => K v := by
      unfold opQ at h
      split at h
      · rename_i t x hx
        exact (hl ⟨t, x, hx⟩).elim
      · exact h
    obtain ⟨v, h1, h2⟩ := opV_q hs (fun t x e => hl ⟨t, x, e⟩) h'
    exact ⟨v, fun w2 _ => h1 w2, h2⟩

/-! ### Regions where what was known of the world ends with an operation -/

def Closed (ops : Array Oper) (L : Array Bool) : Prop := ∀ j o, ops[j]? = some o → L.getD j false = true → ∀ e ∈ o.after, Region.binds .any e = true → L.getD e.on false = true
theorem Closed.start (ops : Array Oper) (n : Nat) : Closed ops (Array.replicate n false) := fun j o _ h => by
  simp only [Array.getD_eq_getD_getElem?, Array.getElem?_replicate] at h
  split at h <;> simp at h
theorem Closed.set {ops : Array Oper} {L : Array Bool} {j : Nat} (h : Closed ops L) (hj : j ∈ Region.ready .any ops L) : Closed ops (L.setIfInBounds j true) := fun k o ho hk e he hb => by
  by_cases hkj : j = k
  · subst hkj
    obtain ⟨_, o', ho', hall⟩ := mem_ready.1 hj
    rw [ho] at ho'
    cases ho'
    exact getD_set_true (hall e he hb)
  · rw [getD_set_ne false hkj] at hk
    exact getD_set_true (h k o ho hk e he hb)
theorem markL_spec {L : Array Bool} : ∀ (es : List Edge) (m : Array Bool), (∀ e ∈ es, Region.binds .any e = true → L.getD e.on false = true) → (∀ k, m.getD k false = true → L.getD k false = true) →
    ∀ k, (markL es m).getD k false = true → L.getD k false = true
  | [], _, _, h, k, hk => h k hk
  | e :: es, m, he, h, k, hk => by
    unfold markL at hk
    rw [List.foldl_cons] at hk
    refine markL_spec es _ (fun e' h' => he e' (List.mem_cons_of_mem _ h')) (fun i hi => ?_) k hk
    split at hi
    · rename_i hb
      by_cases hei : e.on = i
      · subst hei; exact he e List.mem_cons_self hb
      · rw [getD_set_ne false hei] at hi; exact h i hi
    · exact h i hi
theorem ancL_spec {ops : Array Oper} {L : Array Bool} (hL : Closed ops L) : ∀ (n : Nat) (m : Array Bool), (∀ k, m.getD k false = true → L.getD k false = true) → ∀ k, (ancL ops n m).getD k false = true → L.getD k false = true
  | 0, _, h, k, hk => h k hk
  | n + 1, m, h, k, hk => by
    unfold ancL at hk
    refine ancL_spec hL n _ (fun i hi => ?_) k hk
    split at hi
    · rename_i o hm ho
      exact markL_spec _ _ (fun e he hb => hL n o ho (h n hm) e (by simpa using he) hb) h i hi
    · exact h i hi
theorem anc_spec {ops : Array Oper} {L : Array Bool} (hL : Closed ops L) {i j : Nat} (ha : anc ops j i = true) (hj : j ∈ Region.ready .any ops L) (hi : i ∈ Region.ready .any ops L) : False := by
  obtain ⟨_, o, ho, hall⟩ := mem_ready.1 hj
  unfold anc at ha
  rw [ho] at ha
  have h1 := ancL_spec hL j _ (markL_spec o.after.toList _ (fun e he hb => hall e (by simpa using he) hb) (fun k hk => by
    simp only [Array.getD_eq_getD_getElem?, Array.getElem?_replicate] at hk
    split at hk <;> simp at hk)) i ha
  have h0 := (mem_ready.1 hi).1
  rcases Nat.lt_or_ge i L.size with h' | h'
  · simp [h'] at h0 h1; rw [h0] at h1; cases h1
  · simp [Array.getElem?_eq_none h'] at h1

section
variable {ops : Array Oper} {Q : Exit → Act → World → Prop} {S : World → Prop} {J : List Nat}
def wpAnyK (P : Program) (ops : Array Oper) (Q : Exit → Act → World → Prop) (J : List Nat) (S : World → Prop) : Nat → Array Bool → Act → World → Prop
  | 0, listed, a, w => Region.ready .any ops listed = [] ∧ Q .normal a w
  | fuel + 1, listed, a, w => (Region.ready .any ops listed = [] → Q .normal a w) ∧ ∀ i ∈ Region.ready .any ops listed,
    if J.contains i = true then wpOp P ops Q i (fun a' w' => wpAny P .any ops Q fuel (listed.setIfInBounds i true) a' w') a w
    else wpOp P ops Q i (fun a' w' => S w' ∧ wpAnyK P ops Q J S fuel (listed.setIfInBounds i true) a' w') a w
theorem wpAny_of_K : ∀ (fuel : Nat) (listed : Array Bool) (a : Act) (w : World), wpAnyK P ops Q J S fuel listed a w → wpAny P .any ops Q fuel listed a w
  | 0, _, _, _, h => h
  | fuel + 1, _, _, _, h => ⟨h.1, fun i hi => by
    have := h.2 i hi
    split at this
    · exact this
    · exact wpOp_mono (fun a' w' h' => wpAny_of_K fuel _ a' w' h'.2) this⟩
def CanTake (P : Program) (ops : Array Oper) (J : List Nat) (S : World → Prop) (i : Nat) (oi : Oper) (v : Value) (a : Act) : Prop :=
  Yields P ops oi v a ∨ (YieldsIf P ops S oi v a ∧ ∀ j ∈ J, anc ops j i = true)
theorem CanTake.yieldsIf {i : Nat} {oi : Oper} {v : Value} {a : Act} (h : CanTake P ops J S i oi v a) : YieldsIf P ops S oi v a := h.elim (fun h => h.yieldsIf) (fun h => h.1)
theorem wpAnyK_first {i : Nat} {oi : Oper} {v : Value} (hi : ops[i]? = some oi) (hsel : ∀ (j : Nat) (o : Oper) cs b, ops[j]? = some o → o.op ≠ .select cs b)
    (hQ : ∀ c a w, Q (.panic c) (a.put oi.dst v) w → Q (.panic c) a w) :
    ∀ (fuel : Nat) (listed : Array Bool) (a : Act) (w : World),
      (∀ j oj, ops[j]? = some oj → j ≠ i → listed.getD j true = false → (∀ e ∈ oj.after, Region.binds .any e = true → e.on ≠ i) → oi.apart ops oj = true) →
      Closed ops listed → i ∈ Region.ready .any ops listed → CanTake P ops J S i oi v a → S w →
      wpAnyK P ops Q J S fuel (listed.setIfInBounds i true) (a.put oi.dst v) w → wpAnyK P ops Q J S (fuel + 1) listed a w := by
  intro fuel
  have self : ∀ (fuel : Nat) (listed : Array Bool) (a : Act) (w : World), CanTake P ops J S i oi v a → S w → wpAnyK P ops Q J S fuel (listed.setIfInBounds i true) (a.put oi.dst v) w →
      (if J.contains i = true then wpOp P ops Q i (fun a' w' => wpAny P .any ops Q fuel (listed.setIfInBounds i true) a' w') a w
        else wpOp P ops Q i (fun a' w' => S w' ∧ wpAnyK P ops Q J S fuel (listed.setIfInBounds i true) a' w') a w) := fun fuel listed a w hy hS H => by
    split
    · exact hy.yieldsIf.wpOp hi hS (wpAny_of_K _ _ _ _ H)
    · exact hy.yieldsIf.wpOp hi hS ⟨hS, H⟩
  induction fuel with
  | zero =>
    intro listed a w _ _ hr hy hS H
    refine ⟨fun h => (by rw [h] at hr; cases hr), fun j hj => ?_⟩
    by_cases hji : j = i
    · subst hji; exact self 0 listed a w hy hS H
    · have := ready_mono hj hji
      rw [H.1] at this
      cases this
  | succ fuel ih =>
    intro listed a w hfree hcl hr hy hS H
    refine ⟨fun h => (by rw [h] at hr; cases hr), fun j hj => ?_⟩
    by_cases hji : j = i
    · subst hji; exact self _ listed a w hy hS H
    · have h1 := H.2 j (ready_mono hj hji)
      obtain ⟨hjun, oj, hoj, hall⟩ := mem_ready.1 hj
      have hnot : ∀ e ∈ oj.after, Region.binds .any e = true → e.on ≠ i := fun e he hb heq => by
        have h1 := hall e he hb
        have h0 := (mem_ready.1 hr).1
        rw [heq] at h1
        rcases Nat.lt_or_ge i listed.size with h' | h'
        · simp [h'] at h0 h1; rw [h0] at h1; cases h1
        · simp [Array.getElem?_eq_none h'] at h1
      have hfree' : ∀ k ok, ops[k]? = some ok → k ≠ i → (listed.setIfInBounds j true).getD k true = false →
          (∀ e ∈ ok.after, Region.binds .any e = true → e.on ≠ i) → oi.apart ops ok = true := fun k ok hk hki hun hno => by
        refine hfree k ok hk hki ?_ hno
        by_cases hjk : j = k
        · subst hjk; exact hjun
        · rw [getD_set_ne true hjk] at hun; exact hun
      have hap := hfree j oj hoj hji hjun hnot
      split at h1
      · rename_i hJ
        rw [if_pos hJ]
        rcases hy with hy | ⟨_, hy⟩
        · have h2 := wpOp_put hoj hap (fun cs b => hsel i oi cs b hi) (fun cs b => hsel j oj cs b hoj) hQ hy h1
          refine wpOp_mono (fun a' w' h3 => wpAny_first hi hsel hQ fuel _ a' w' hfree' (ready_mono hr (Ne.symm hji)) h3.1 ?_) h2
          rw [Array.setIfInBounds_comm _ _ hji]
          exact h3.2
        · exact (anc_spec hcl (hy j (by simpa using hJ)) hj hr).elim
      · rename_i hJ
        rw [if_neg hJ]
        have step : wpOp P ops Q j (fun a' w' => CanTake P ops J S i oi v a' ∧ S w' ∧ wpAnyK P ops Q J S fuel ((listed.setIfInBounds i true).setIfInBounds j true) (a'.put oi.dst v) w') a w := by
          rcases hy with hy | ⟨hy, hyJ⟩
          · exact wpOp_mono (fun a' w' h3 => ⟨.inl h3.1, h3.2⟩) (wpOp_put hoj hap (fun cs b => hsel i oi cs b hi) (fun cs b => hsel j oj cs b hoj) hQ hy h1)
          · exact wpOp_mono (fun a' w' h3 => ⟨.inr ⟨h3.1, hyJ⟩, h3.2⟩) (wpOp_putIf hoj hap (fun cs b => hsel i oi cs b hi) (fun cs b => hsel j oj cs b hoj) hQ hy h1)
        refine wpOp_mono (fun a' w' h3 => ⟨h3.2.1, ih (listed.setIfInBounds j true) a' w' hfree' (hcl.set hj) (ready_mono hr (Ne.symm hji)) h3.1 h3.2.1 ?_⟩) step
        rw [Array.setIfInBounds_comm _ _ hji]
        exact h3.2.2
end

/-- What an operation yields in every world, if it is no load. -/
theorem opQ_every {S : World → Prop} {E : Env} {w : World} {K : Value → Prop} {o : Oper} (hs : stillOp P o.op = true) (hl : isLoad o.op = false) (h : opQ P F S E o w K) :
    ∃ v, (∀ w2, (execOp E.rho o).run P w2 = .ok (.value v) w2) ∧ K v := by
  have hl' : ∀ t x, o.op ≠ .load t x := fun t x e => by rw [e] at hl; cases hl
  have h' : opV P F true E o w fun v _ => K v := by
    unfold opQ at h
    split at h
    · rename_i t x hx
      exact (hl' t x hx).elim
    · exact h
  obtain ⟨v, h1, h2⟩ := opV_q hs hl' h'
  exact ⟨v, h1, h2⟩

/-- One that comes up. -/
theorem effT_op (hF : CallsOk P F) {ops : Array Oper} {Q : Exit → Act → World → Prop} {J : List Nat} {S : World → Prop} {i : Nat} {fl : Option (List Nat)} {lo : Bool} {E : Env} {w : World} {o : Oper} {a : Act}
    {fuel : Nat} {listed : Array Bool} {k : List Nat → (World → Prop) → Env → World → Prop} (ho : ops[i]? = some o) (hS : S w) (hf : Fits N E a) (hd : ∀ t, o.dst = some t → t < N)
    (h : effT P F ops J S i fl lo E w o k) (hk : ∀ J S E' v w', k J S E' w' → S w' → Fits N E' (a.put o.dst v) → wpAnyK P ops Q J S fuel (listed.setIfInBounds i true) (a.put o.dst v) w') :
    if J.contains i = true then wpOp P ops Q i (fun a' w' => wpAny P .any ops Q fuel (listed.setIfInBounds i true) a' w') a w
    else wpOp P ops Q i (fun a' w' => S w' ∧ wpAnyK P ops Q J S fuel (listed.setIfInBounds i true) a' w') a w := by
  have ph : ∀ (J' : List Nat) (E' : Env) (v : Value) (w' : World), phT lo w' (fun S => k J' S E' w') → Fits N E' (a.put o.dst v) → wpAny P .any ops Q fuel (listed.setIfInBounds i true) (a.put o.dst v) w' := fun J' E' v w' h hf => by
    unfold phT at h
    split at h
    · obtain ⟨S', h1, h2⟩ := h
      exact wpAny_of_K _ _ _ _ (hk _ _ _ _ _ h2 h1 hf)
    · exact wpAny_of_K _ _ _ _ (hk _ _ _ _ _ h trivial hf)
  unfold effT at h
  split at h
  · rename_i hJ
    rw [if_neg (by rw [hJ]; simp)]
    unfold wpOp
    simp only [ho]
    rcases gdT_elim h hf with ⟨hw, E', hf', hy⟩ | ⟨hw, E', hf', hn⟩
    · rw [if_pos hw]
      split at hy
      · rename_i hall
        refine .inl ?_
        unfold Oper.wp
        rw [hasAll_exec hf' hall]
        exact out_upon (opV_out hF hy) fun v w' hv => ⟨hv.1, hk _ _ _ _ _ hv.2 hv.1 (hf'.put hd)⟩
      · exact hy.elim
    · rw [if_neg (by rw [hw]; simp)]
      exact ⟨hS, hk _ _ _ _ _ hn hS (hf'.put hd)⟩
  · rename_i J' hJ
    rw [if_pos hJ]
    unfold wpOp
    simp only [ho]
    rcases gdT_elim h hf with ⟨hw, E', hf', hy⟩ | ⟨hw, E', hf', hn⟩
    · rw [if_pos hw]
      split at hy
      · rename_i hall
        refine .inl ?_
        unfold Oper.wp
        rw [hasAll_exec hf' hall]
        exact out_upon (opV_out hF hy) fun v w' hv => ph _ _ _ _ hv (hf'.put hd)
      · exact hy.elim
    · rw [if_neg (by rw [hw]; simp)]
      exact ph _ _ _ _ hn (hf'.put hd)
  · exact h.elim

theorem heldT_any (hF : CallsOk P F) {ops : Array Oper} {G : Act → World → Prop} (hsel : Region.noSelect ops = true) (hd : dstOk N ops.toList) {K : Env → World → Prop} {a0 : Act}
    (hG : ∀ E' a' w', K E' w' → Fits N E' a' → frame ops.toList a0 a' → G a' w') :
    ∀ (x : Od) (pre : List Nat) (J : List Nat) (S : World → Prop) (listed : Array Bool) (E : Env) (w : World) (a : Act) (fuel : Nat), x.depth ≤ fuel → S w → Closed ops listed →
    heldT P F ops x pre J S listed E w K → Fits N E a → frame ops.toList a0 a →
    (pre = [] → wpAnyK P ops (fun e a' w' => e = .normal ∧ G a' w') J S fuel listed a w) ∧
    (pre ≠ [] → ∀ f, fuel = f + 1 → Region.ready .any ops listed ≠ [] ∧ ∀ i ∈ Region.ready .any ops listed, i ∉ pre →
      if J.contains i = true then wpOp P ops (fun e a' w' => e = .normal ∧ G a' w') i (fun a' w' => wpAny P .any ops (fun e a' w' => e = .normal ∧ G a' w') f (listed.setIfInBounds i true) a' w') a w
      else wpOp P ops (fun e a' w' => e = .normal ∧ G a' w') i (fun a' w' => S w' ∧ wpAnyK P ops (fun e a' w' => e = .normal ∧ G a' w') J S f (listed.setIfInBounds i true) a' w') a w)
  | .done, pre, J, S, listed, E, w, a, fuel, _, hS, hcl, h, hf, hfr => by
    unfold heldT at h
    split at h
    · rename_i he
      simp only [Bool.and_eq_true, List.isEmpty_iff] at he
      refine ⟨fun _ => ?_, fun hp => absurd he.1 hp⟩
      cases fuel with
      | zero => exact ⟨he.2, rfl, hG _ _ _ h hf hfr⟩
      | succ f => exact ⟨fun _ => ⟨rfl, hG _ _ _ h hf hfr⟩, by rw [he.2]; simp⟩
    · exact h.elim
  | .take i r, pre, J, S, listed, E, w, a, fuel, hdp, hS, hcl, h, hf, hfr => by
    unfold heldT at h
    obtain ⟨fuel, rfl⟩ : ∃ n, fuel = n + 1 := ⟨fuel - 1, by simp only [Od.depth] at hdp; omega⟩
    have hdp' : r.depth ≤ fuel := by simp only [Od.depth] at hdp; omega
    split at h
    · exact h.elim
    rename_i o ho
    have hmem : o ∈ ops.toList := by
      have := Array.mem_of_getElem? ho
      simpa using this
    have hdo := hd o hmem
    have hfr' : ∀ (v : Value), frame ops.toList a0 (a.put o.dst v) := fun v t ht => by
      rw [put_frame (ht o hmem)]; exact hfr t ht
    split at h
    · exact h.elim
    rename_i hc
    simp only [Bool.and_eq_true, List.isEmpty_iff] at hc
    obtain ⟨⟨hp, hfree, hrd⟩, hJ⟩ := hc
    refine ⟨fun _ => ?_, fun hp' => absurd hp hp'⟩
    have hrd' : i ∈ Region.ready .any ops listed := by simpa using hrd
    have go : ∀ (E' : Env) (v : Value), CanTake P ops J S i o v a → Fits N E' a → heldT P F ops r [] J S (listed.setIfInBounds i true) (E'.put o.dst v) w K →
        wpAnyK P ops (fun e a' w' => e = .normal ∧ G a' w') J S (fuel + 1) listed a w := fun E' v hy hf' hr =>
      wpAnyK_first ho (Region.noSelect_spec hsel) (fun c a w h => by cases h.1) fuel listed a w (Region.free_spec ho hfree) hcl hrd' hy hS
        ((heldT_any hF hsel hd hG r [] J S _ _ w _ fuel hdp' hS (hcl.set hrd') hr (hf'.put hdo) (hfr' v)).1 rfl)
    rcases gdT_elim h hf with ⟨hw, E', hf', hy⟩ | ⟨hw, E', hf', hn⟩
    · split at hy
      · rename_i hall
        simp only [Bool.and_eq_true] at hall
        cases hl : isLoad o.op with
        | false =>
          obtain ⟨v, h1, h2⟩ := opQ_every hall.2 hl hy
          exact go E' v (.inl (.inl ⟨hw, fun w2 => by rw [hasAll_exec hf' hall.1]; exact h1 w2⟩)) hf' h2
        | true =>
          obtain ⟨v, h1, h2⟩ := opQ_elim hall.2 hy
          refine go E' v (.inr ⟨.inl ⟨hw, fun w2 hw2 => by rw [hasAll_exec hf' hall.1]; exact h1 w2 hw2⟩, fun j hj => ?_⟩) hf' h2
          rw [hl] at hJ
          simp only [Bool.not_true, Bool.false_or, List.all_eq_true] at hJ
          exact hJ j hj
      · exact hy.elim
    · exact go E' undef (.inl (.inr ⟨hw, rfl⟩)) hf' hn
  | .eff i fl r, pre, J, S, listed, E, w, a, fuel, hdp, hS, hcl, h, hf, hfr => by
    unfold heldT at h
    obtain ⟨fuel, rfl⟩ : ∃ n, fuel = n + 1 := ⟨fuel - 1, by simp only [Od.depth] at hdp; omega⟩
    have hdp' : r.depth ≤ fuel := by simp only [Od.depth] at hdp; omega
    split at h
    · exact h.elim
    rename_i o ho
    have hmem : o ∈ ops.toList := by
      have := Array.mem_of_getElem? ho
      simpa using this
    have hdo := hd o hmem
    have hfr' : ∀ (v : Value), frame ops.toList a0 (a.put o.dst v) := fun v t ht => by
      rw [put_frame (ht o hmem)]; exact hfr t ht
    split at h
    · rename_i hrd
      have hrd : Region.ready .any ops listed = pre ++ [i] := by simpa using hrd
      have hin : i ∈ Region.ready .any ops listed := by rw [hrd]; simp
      have hbr := effT_op (Q := fun e a' w' => e = .normal ∧ G a' w') (fuel := fuel) (listed := listed) hF ho hS hf hdo h fun J S E' v w' hk hS' hf' =>
        (heldT_any hF hsel hd hG r [] J S _ E' w' _ fuel hdp' hS' (hcl.set hin) hk hf' (hfr' v)).1 rfl
      have hne : Region.ready .any ops listed ≠ [] := fun h0 => by rw [h0] at hin; cases hin
      refine ⟨fun hp => ⟨fun h0 => absurd h0 hne, fun j hj => ?_⟩, fun hp f hff => ⟨hne, fun j hj hjp => ?_⟩⟩
      · rw [hrd, hp] at hj
        have : j = i := by simpa using hj
        subst this
        exact hbr
      · cases hff
        rw [hrd] at hj
        have : j = i := by
          rcases List.mem_append.1 hj with h | h
          · exact absurd h hjp
          · simpa using h
        subst this
        exact hbr
    · exact h.elim
  | .effs i fl r more, pre, J, S, listed, E, w, a, fuel, hdp, hS, hcl, h, hf, hfr => by
    unfold heldT at h
    obtain ⟨fuel, rfl⟩ : ∃ n, fuel = n + 1 := ⟨fuel - 1, by simp only [Od.depth] at hdp; omega⟩
    have hdp' : r.depth ≤ fuel := by simp only [Od.depth] at hdp; omega
    split at h
    · exact h.elim
    rename_i o ho
    have hmem : o ∈ ops.toList := by
      have := Array.mem_of_getElem? ho
      simpa using this
    have hdo := hd o hmem
    have hfr' : ∀ (v : Value), frame ops.toList a0 (a.put o.dst v) := fun v t ht => by
      rw [put_frame (ht o hmem)]; exact hfr t ht
    obtain ⟨h, hm⟩ := h
    have hbr := fun hin : i ∈ Region.ready .any ops listed => effT_op (Q := fun e a' w' => e = .normal ∧ G a' w') (fuel := fuel) (listed := listed) hF ho hS hf hdo h fun J S E' v w' hk hS' hf' =>
        (heldT_any hF hsel hd hG r [] J S _ E' w' _ fuel hdp' hS' (hcl.set hin) hk hf' (hfr' v)).1 rfl
    have hmo := (heldT_any hF hsel hd hG more (pre ++ [i]) J S listed E w a (fuel + 1) (by simp only [Od.depth] at hdp; omega) hS hcl hm hf hfr).2 (by simp) fuel rfl
    refine ⟨fun hp => ⟨fun h0 => absurd h0 hmo.1, fun j hj => ?_⟩, fun _ f hff => ⟨hmo.1, fun j hj hjp => ?_⟩⟩
    · by_cases hji : j = i
      · subst hji; exact hbr hj
      · exact hmo.2 j hj (by simp [hp, hji])
    · cases hff
      by_cases hji : j = i
      · subst hji; exact hbr hj
      · exact hmo.2 j hj (by simp [hjp, hji])

theorem regT_wp (hF : CallsOk P F) (hm : P.follows .mixedOrders = true) {m : RMode} {id : Nat} {ops : Array Oper} {d : Bool} {E : Env} {w : World} {K : Env → World → Prop} {a : Act}
    (h : regT P F m ops d E w K) (hf : Fits N E a) (hd : dstOk N ops.toList) :
    (Code.region id ops d).wp P (fun e a' w' => e = .normal ∧ ∃ E', K E' w' ∧ Fits N E' a' ∧ frame ops.toList a a') a w := by
  unfold regT at h
  split at h
  · exact wp_region_list (opsT_list hF _ _ _ _ _ h hf hd fun E' a' w' h1 h2 h3 => ⟨rfl, E', h1, h2, h3⟩)
  · split at h
    · rename_i hB
      exact wp_region_still hm hB (opsT_still _ _ w.drew _ _ h hf hd fun E' a' h1 h2 h3 => ⟨rfl, E', h1, h2, h3⟩)
    · exact h.elim
  · rename_i n
    split at h
    · rename_i hB
      obtain ⟨l⟩ := ops
      refine wp_region_still_tail (l := l) n hm hB (opsT_still _ _ w.drew _ _ h hf (fun o ho => hd o (List.mem_of_mem_take ho)) fun E' a' h1 h2 h3 => ?_)
      refine opsT_list hF _ _ _ _ _ h1 h2 (fun o ho => hd o (List.mem_of_mem_drop ho)) fun E'' a'' w'' g1 g2 g3 => ⟨rfl, E'', g1, g2, fun t ht => ?_⟩
      rw [g3 t fun o ho => ht o (List.mem_of_mem_drop ho)]
      exact h3 t fun o ho => ht o (List.mem_of_mem_take ho)
    · exact h.elim
  · rename_i J o
    split at h
    · rename_i hB
      simp only [Bool.and_eq_true] at hB
      have key : ∀ S : World → Prop, S w.drew → heldT P F ops o [] J S (Array.replicate ops.size false) E w.drew K →
          (Code.region id ops true).wp P (fun e a' w' => e = .normal ∧ ∃ E', K E' w' ∧ Fits N E' a' ∧ frame ops.toList a a') a w := fun S hS h =>
        wp_region_any hm (wpAny_of_K _ _ _ _ ((heldT_any hF hB.1 hd (G := fun a' w' => ∃ E', K E' w' ∧ Fits N E' a' ∧ frame ops.toList a a') (fun E' a' w' h1 h2 h3 => ⟨E', h1, h2, h3⟩) o [] J S _ E w.drew a ops.size
          (Nat.le_of_ble_eq_true hB.2) hS (Closed.start _ _) h hf (fun _ _ => rfl)).1 rfl))
      unfold phT at h
      split at h
      · obtain ⟨S, hS, h⟩ := h
        exact key S hS h
      · exact key _ trivial h
    · exact h.elim
  · exact h.elim

/-! ### Code -/

def slotsOk (N : Nat) : Code → Bool
  | .region _ ops _ => ops.toList.all fun o => match o.dst with
    | some d => Nat.blt d N
    | none => true
  | .seq a b => slotsOk N a && slotsOk N b
  | .cond _ a b => slotsOk N a && slotsOk N b
  | .block _ a => slotsOk N a
  | .loop a => slotsOk N a
  | _ => true
theorem slotsOk_dst {ops : Array Oper} {id : Nat} {d : Bool} (h : slotsOk N (.region id ops d) = true) : dstOk N ops.toList := fun o ho t ht => by
  simp only [slotsOk, List.all_eq_true] at h
  have := h o ho
  rw [ht] at this
  have h2 : t + 1 ≤ N := by simpa [Nat.blt] using this
  exact h2
theorem wr_region {ops : Array Oper} {id : Nat} {d : Bool} {t : Nat} (h : wr t (.region id ops d) = false) : ∀ o ∈ ops.toList, o.dst ≠ some t := fun o ho e => by
  simp only [wr, List.any_eq_false] at h
  have := h o ho
  rw [e] at this
  simp at this

def Held (N : Nat) (E : Env) (a : Act) : Prop := ∀ p ∈ E, p.1 < N ∧ a.tmps.getD p.1 undef = p.2
theorem get?_mem {E : Env} {t : Nat} {v : Value} (h : E.get? t = some v) : (t, v) ∈ E := by
  induction E with
  | nil => cases h
  | cons p E ih =>
    obtain ⟨u, x⟩ := p
    simp only [Env.get?] at h
    split at h
    · rename_i hb
      cases h
      rw [beq_eq hb]; exact List.mem_cons_self
    · exact List.mem_cons_of_mem _ (ih h)
theorem Held.fits {E : Env} {a : Act} (h : Held N E a) (hs : a.tmps.size = N) (hd : a.defers = []) : Fits N E a := ⟨hs, fun t v hv => h (t, v) (get?_mem hv), hd⟩
theorem zip_held {E : Env} {a : Act} (hf : Fits N E a) : ∀ (ts : List Nat) (vs : List Value), Env.vals E ts = some vs → Held N (Env.zip ts vs) a
  | [], vs, _, p, hp => by cases vs <;> cases hp
  | t :: ts, vs, h, p, hp => by
    simp only [Env.vals] at h
    split at h
    · rename_i v vs' hv hvs
      cases h
      rcases List.mem_cons.1 hp with rfl | hp
      · exact hf.get _ _ hv
      · exact zip_held hf ts vs' hvs p hp
    · cases h
theorem keep_held {E : Env} {a a' : Act} (hf : Fits N E a) : ∀ (ks : List Nat), (∀ t ∈ ks, a'.tmps.getD t undef = a.tmps.getD t undef) → Held N (Env.keep E ks) a'
  | [], _, p, hp => by cases hp
  | t :: ks, h, p, hp => by
    have ih := keep_held hf ks fun u hu => h u (List.mem_cons_of_mem _ hu)
    simp only [Env.keep] at hp
    split at hp
    · rename_i v hv
      rcases List.mem_cons.1 hp with rfl | hp
      · obtain ⟨h1, h2⟩ := hf.get _ _ hv
        exact ⟨h1, by rw [h t List.mem_cons_self]; exact h2⟩
      · exact ih p hp
    · exact ih p hp
theorem keepOk_wr {keep : List Nat} {c : Code} (h : keepOk keep c = true) : ∀ t ∈ keep, wr t c = false := fun t ht => by
  simpa using List.all_eq_true.1 h t ht
theorem stGet_elim {live : List (Nat × Ty)} {E : Env} {K : Sg (live.map (·.2)) → Prop} (h : stGet live E K) :
    ∃ s, K s ∧ ∀ a, Fits N E a → Held N (stPut live s) a := by
  unfold stGet at h
  split at h
  · rename_i vs hvs
    split at h
    · rename_i s hs
      refine ⟨s, h, fun a hf => ?_⟩
      unfold stPut
      rw [Sg.get?_vals _ _ _ hs]
      exact zip_held hf _ _ hvs
    · exact h.elim
  · exact h.elim
theorem append_fits {A B : Env} {a : Act} (hA : Held N A a) (hB : Held N B a) (hs : a.tmps.size = N) (hd : a.defers = []) : Fits N (A ++ B) a :=
  Held.fits (fun p hp => (List.mem_append.1 hp).elim (hA p) (hB p)) hs hd

def Post (N : Nat) (c : Code) (K : Exit → Env → World → Prop) (a0 : Act) (e : Exit) (a' : Act) (w' : World) : Prop :=
  ∃ E', K e E' w' ∧ Fits N E' a' ∧ ∀ t, wr t c = false → a'.tmps.getD t undef = a0.tmps.getD t undef

theorem rho_bool {E : Env} {a : Act} (hf : Fits N E a) {x : Operand} {b : Bool} (h : E.rho x = .bool b) : a.eval x = .bool b := by
  rw [← h]
  refine hf.rho ?_
  cases x with
  | tmp t =>
    simp only [Env.has]
    cases hg : E.get? t with
    | none => simp [Env.rho, hg, undef] at h
    | some v => rfl
  | _ => rfl

theorem codeT_wp (hF : CallsOk P F) (hm : P.follows .mixedOrders = true) : ∀ (c : Code) (pl : Plan) (E : Env) (w : World) (K : Exit → Env → World → Prop) (a : Act),
    codeT P F pl c E w K → Fits N E a → slotsOk N c = true → c.wp P (Post N c K a) a w := by
  intro c
  induction c with
  | region id ops d =>
    intro pl E w K a h hf hs
    cases pl <;> try exact (show False from h).elim
    rename_i m
    exact wp_mono (regT_wp hF hm h hf (slotsOk_dst hs)) fun e a' w' ⟨he, E', h1, h2, h3⟩ => ⟨E', by subst he; exact h1, h2, fun t ht => h3 t (wr_region ht)⟩
  | skip =>
    intro pl E w K a h hf hs
    cases pl <;> try exact (show False from h).elim
    exact wp_skip ⟨E, h, hf, fun _ _ => rfl⟩
  | label l =>
    intro pl E w K a h hf hs
    cases pl <;> try exact (show False from h).elim
    exact wp_label ⟨E, h, hf, fun _ _ => rfl⟩
  | exit id =>
    intro pl E w K a h hf hs
    cases pl <;> try exact (show False from h).elim
    exact wp_exit ⟨E, h, hf, fun _ _ => rfl⟩
  | ret =>
    intro pl E w K a h hf hs
    cases pl <;> try exact (show False from h).elim
    exact wp_ret ⟨E, h, hf, fun _ _ => rfl⟩
  | seq c d ihc ihd =>
    intro pl E w K a h hf hs
    simp only [slotsOk, Bool.and_eq_true] at hs
    have wrs : ∀ t, wr t (.seq c d) = false → wr t c = false ∧ wr t d = false := fun t ht => by simpa [wr] using ht
    cases pl <;> try exact (show False from h).elim
    · rename_i p q
      refine wp_seq (wp_mono (ihc p E w _ a h hf hs.1) fun e a' w' ⟨E', h1, h2, h3⟩ => ?_)
      cases e <;> try exact ⟨E', h1, h2, fun t ht => h3 t (wrs t ht).1⟩
      exact wp_mono (ihd q E' w' K a' h1 h2 hs.2) fun e a'' w'' ⟨E'', g1, g2, g3⟩ => ⟨E'', g1, g2, fun t ht => by rw [g3 t (wrs t ht).2]; exact h3 t (wrs t ht).1⟩
    · rename_i live keep p q
      replace h : match keepOk keep c with
        | true => Join (fun s w => codeT P F q d (stPut live s ++ Env.keep E keep) w K) fun J => codeT P F p c E w fun e E w => match e with
          | .normal => stGet live E fun s => J s w
          | e => K e E w
        | false => False := h
      split at h
      · rename_i hk
        obtain ⟨J, hb, hfr⟩ := h
        refine wp_seq (wp_mono (ihc p E w _ a hfr hf hs.1) fun e a' w' ⟨E', h1, h2, h3⟩ => ?_)
        cases e <;> try exact ⟨E', h1, h2, fun t ht => h3 t (wrs t ht).1⟩
        obtain ⟨s, hJ, hst⟩ := stGet_elim (N := N) h1
        have hfit : Fits N (stPut live s ++ Env.keep E keep) a' := append_fits (hst a' h2) (keep_held hf keep fun t ht => h3 t (keepOk_wr hk t ht)) h2.size h2.defers
        exact wp_mono (ihd q _ w' K a' (hb s w' hJ) hfit hs.2) fun e a'' w'' ⟨E'', g1, g2, g3⟩ => ⟨E'', g1, g2, fun t ht => by rw [g3 t (wrs t ht).2]; exact h3 t (wrs t ht).1⟩
      · exact h.elim
  | cond x c d ihc ihd =>
    intro pl E w K a h hf hs
    simp only [slotsOk, Bool.and_eq_true] at hs
    have wrs : ∀ t, wr t (.cond x c d) = false → wr t c = false ∧ wr t d = false := fun t ht => by simpa [wr] using ht
    cases pl <;> try exact (show False from h).elim
    rename_i p q
    replace h : match E.rho x with
      | .bool b => Br b (codeT P F p c E w K) (codeT P F q d E w K)
      | _ => False := h
    split at h
    · rename_i b hb
      rcases Br_elim h with ⟨rfl, h⟩ | ⟨rfl, h⟩
      · exact wp_cond_true (rho_bool hf hb) (wp_mono (ihc p E w K a h hf hs.1) fun e a' w' ⟨E', h1, h2, h3⟩ => ⟨E', h1, h2, fun t ht => h3 t (wrs t ht).1⟩)
      · exact wp_cond_false (rho_bool hf hb) (wp_mono (ihd q E w K a h hf hs.2) fun e a' w' ⟨E', h1, h2, h3⟩ => ⟨E', h1, h2, fun t ht => h3 t (wrs t ht).2⟩)
    · exact h.elim
  | block id c ih =>
    intro pl E w K a h hf hs
    cases pl <;> try exact (show False from h).elim
    rename_i p
    refine wp_block (wp_mono (ih p E w _ a h hf hs) fun e a' w' ⟨E', h1, h2, h3⟩ => ?_)
    cases e with
    | exit i =>
      replace h1 : match Nat.beq i id with
        | true => K .normal E' w'
        | false => K (.exit i) E' w' := h1
      show if i = id then _ else _
      cases hb : Nat.beq i id with
      | true => rw [hb] at h1; rw [if_pos (beq_eq hb)]; exact ⟨E', h1, h2, h3⟩
      | false => rw [hb] at h1; rw [if_neg (fun e => by subst e; simp at hb)]; exact ⟨E', h1, h2, h3⟩
    | _ => exact ⟨E', h1, h2, h3⟩
  | loop c ih =>
    intro pl E w K a h hf hs
    cases pl <;> try exact (show False from h).elim
    rename_i live keep p
    replace h : match keepOk keep c with
      | true => stGet live E fun s0 => Lp (fun R s w => codeT P F p c (stPut live s ++ Env.keep E keep) w fun e E w => match e with
        | .normal => stGet live E fun s => R s w
        | e => K e E w) s0 w
      | false => False := h
    split at h
    · rename_i hk
      obtain ⟨s0, ⟨I, n0, h0, hround⟩, hst0⟩ := stGet_elim (N := N) h
      refine wp_loop_ghost (fun n a' w' => ∃ s, I n s w' ∧ Fits N (stPut live s ++ Env.keep E keep) a' ∧ ∀ t, wr t c = false → a'.tmps.getD t undef = a.tmps.getD t undef) n0
        ⟨s0, h0, append_fits (hst0 a hf) (keep_held hf keep fun _ _ => rfl) hf.size hf.defers, fun _ _ => rfl⟩ ?_
      rintro n a' w' ⟨s, hI, hfit, hfr⟩
      refine wp_mono (ih p _ w' _ a' (hround n s w' hI) hfit hs) fun e a'' w'' ⟨E'', g1, g2, g3⟩ => ?_
      have hfr' : ∀ t, wr t c = false → a''.tmps.getD t undef = a.tmps.getD t undef := fun t ht => by rw [g3 t ht]; exact hfr t ht
      cases e <;> try exact ⟨E'', g1, g2, hfr'⟩
      obtain ⟨s', ⟨n', hlt, hI'⟩, hst⟩ := stGet_elim (N := N) g1
      exact ⟨n', hlt, s', hI', append_fits (hst a'' g2) (keep_held hf keep fun t ht => hfr' t (keepOk_wr hk t ht)) g2.size g2.defers, hfr'⟩
    · exact h.elim
  | _ =>
    intro pl E w K a h hf hs
    cases pl <;> exact (show False from h).elim

/-! ### A function -/

theorem mapM_cells {f : ResultVar → Sem Value} {w : World} : ∀ (l : List ResultVar) (vs : List Value), (∀ (i : Nat) (r : ResultVar) (v : Value), l[i]? = some r → vs[i]? = some v → (f r).run P w = .ok v w) → l.length = vs.length →
    (l.mapM f).run P w = .ok vs w
  | [], [], _, _ => rfl
  | [], _ :: _, _, h => by cases h
  | _ :: _, [], _, h => by cases h
  | r :: l, v :: vs, h, hl => by
    have h0 := h 0 r v rfl rfl
    have ih := mapM_cells l vs (fun i r v h1 h2 => h (i + 1) r v (by simpa using h1) (by simpa using h2)) (by simpa using hl)
    simp only [List.mapM_cons, Sem.run_bind, h0, Result.andThen_ok, ih, Sem.run_pure]

def resF (a : Act) (r : ResultVar) : Sem Value := match r with
  | .tmp t => pure (a.tmps.getD t undef)
  | .cell t ty => do loadVar ty (← asAddr (a.tmps.getD t undef))
theorem resT_run {E : Env} {w : World} {a : Act} (hf : Fits N E a) : ∀ (l : List ResultVar) (K : List Value → Prop), resT P l E w K →
    ∃ vs : List Value, l.length = vs.length ∧ (∀ (i : Nat) (r : ResultVar) (v : Value), l[i]? = some r → vs[i]? = some v → (resF a r).run P w = .ok v w) ∧ K vs
  | [], K, h => ⟨[], rfl, by simp, h⟩
  | .tmp t :: l, K, h => by
    simp only [resT] at h
    split at h
    · rename_i v hv
      obtain ⟨vs, h1, h2, h3⟩ := resT_run hf l _ h
      refine ⟨v :: vs, by simp [h1], fun i r u hi hu => ?_, h3⟩
      cases i with
      | zero =>
        simp only [List.getElem?_cons_zero, Option.some.injEq] at hi hu
        subst hi hu
        simp only [resF, Sem.run_pure, (hf.get t v hv).2]
      | succ i => exact h2 i r u (by simpa using hi) (by simpa using hu)
    · exact h.elim
  | .cell t ty :: l, K, h => by
    simp only [resT] at h
    split at h
    · rename_i x hx
      obtain ⟨v, g1, g2⟩ := ldV_run h
      obtain ⟨vs, h1, h2, h3⟩ := resT_run hf l _ g2
      refine ⟨v :: vs, by simp [h1], fun i r u hi hu => ?_, h3⟩
      cases i with
      | zero =>
        simp only [List.getElem?_cons_zero, Option.some.injEq] at hi hu
        subst hi hu
        have hxa : ∃ b, x = .pointer (some b) := by
          unfold ldV at h
          split at h
          · exact ⟨_, rfl⟩
          · exact h.elim
        obtain ⟨b, rfl⟩ := hxa
        simp only [Instr.loadAt, Instr.sureAddr, Sem.run_bind, Sem.run_pure, Result.andThen_ok] at g1
        simp only [resF, (hf.get t _ hx).2, asAddr, Sem.run_bind, Sem.run_pure, Result.andThen_ok, g1]
      | succ i => exact h2 i r u (by simpa using hi) (by simpa using hu)
    · exact h.elim

theorem env0_held {a : Act} : ∀ (l : List Value) (i : Nat), (∀ j v, l[j]? = some v → i + j < N ∧ a.tmps.getD (i + j) undef = v) → Held N (env0 i l) a
  | [], _, _, p, hp => by cases hp
  | v :: l, i, h, p, hp => by
    rcases List.mem_cons.1 hp with rfl | hp
    · exact h 0 v rfl
    · exact env0_held l (i + 1) (fun j u hj => by have := h (j + 1) u (by simpa using hj); rw [show i + 1 + j = i + (j + 1) by omega]; exact this) p hp

theorem retV_eq (vs : List Value) : (if h : vs.toArray.size = 1 then vs.toArray[0] else Value.tuple vs.toArray) = callV.retV vs := by
  match vs with
  | [] => rfl
  | [v] => rfl
  | _ :: _ :: _ => simp [callV.retV]

/-- **The formula of a whole function implies what a call of it does.** -/
theorem fn_calls (hF : CallsOk P F) (hm : P.follows .mixedOrders = true) {f : FuncId} {fn : Func} {pl : Plan} {args : List Value} {w : World} {tys : List Ty} {R : Sg tys → World → Prop}
    (hf : P.funcs[f]? = some fn) (hN : (match fn.body with
      | some c => slotsOk fn.ntmps c
      | none => false) = true) (ha : Nat.ble args.length fn.ntmps = true)
    (h : fnT P F pl fn args w tys R) : Calls P f args.toArray w fun e w' => ∃ s : Sg tys, e = .returned (callV.retV (Sg.vals tys s)) ∧ R s w' := by
  unfold fnT at h
  split at h
  · exact h.elim
  · rename_i c hc
    rw [hc] at hN
    have hle : args.length ≤ fn.ntmps := Nat.le_of_ble_eq_true ha
    refine calls_of_wp hf hc ?_
    have hfit : Fits fn.ntmps (env0 0 args) { tmps := args.toArray ++ Array.replicate (fn.ntmps - args.toArray.size) undef, defers := [] } := by
      refine Held.fits (env0_held args 0 fun j v hj => ?_) (by simp; omega) rfl
      have hlt : j < args.length := (List.getElem?_eq_some_iff.1 hj).1
      refine ⟨by omega, ?_⟩
      have hv : args[j] = v := (List.getElem?_eq_some_iff.1 hj).2
      simp [Array.getD, hlt, hv]
      intro h'
      omega
    refine wp_mono (codeT_wp hF hm c pl _ w _ _ h hfit hN) fun e a' w' ⟨E', h1, h2, _⟩ => ?_
    have fin : ∀ (E' : Env) (a' : Act) (w' : World), Fits fn.ntmps E' a' → (resT P fn.results.toList E' w' fun vs => match Sg.get? tys vs with
        | some s => R s w'
        | none => False) → a'.defers = [] ∧ ∃ v, (results fn a'.tmps).run P w' = .ok v w' ∧ ∃ s : Sg tys, Ending.returned v = .returned (callV.retV (Sg.vals tys s)) ∧ R s w' := by
      intro E' a' w' hfit h
      obtain ⟨vs, g1, g2, g3⟩ := resT_run hfit _ _ h
      split at g3
      · rename_i s hs
        refine ⟨hfit.defers, callV.retV vs, ?_, s, by rw [Sg.get?_vals _ _ _ hs], g3⟩
        have e : results fn a'.tmps = (do
            let vs ← fn.results.mapM (resF a')
            pure (if h : vs.size = 1 then vs[0] else .tuple vs)) := rfl
        rw [e, Array.mapM_eq_mapM_toList]
        have := mapM_cells (P := P) (w := w') fn.results.toList vs g2 g1
        simp only [Sem.run_bind, Sem.run_map, this, Result.andThen_ok, Sem.run_pure, retV_eq]
      · exact g3.elim
    cases e with
    | normal => exact fin E' a' w' h2 h1
    | ret => exact fin E' a' w' h2 h1
    | _ => exact h1.elim
end
end Sh
end Go.Proofs.Ytahdpfjikmechaa
