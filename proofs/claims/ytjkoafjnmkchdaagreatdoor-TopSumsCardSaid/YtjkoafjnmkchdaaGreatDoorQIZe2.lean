/- Regions, code and whole functions: the formula of 'Sh' implies the model's own account. Conditions: the functions that may be called have a body; every slot lies inside the frame; the program follows 'mixedOrders'. -/
import Derived.Test.YtjkoafjnmkchdaaGreatDoorQIZe1
import Derived.Deep.LoopGhost
import Derived.IntWalk
import Derived.Below
import Derived.Laws.AppendOwn
import Derived.Laws.OwnMore
import Derived.Laws.BytesString
import Derived.Laws.BytesArg
import Derived.Laws.MakeOwn
import Derived.OpenShut
import Derived.ChangeArms
import Derived.WideShapes
namespace Go.Proofs.YtjkoafjnmkchdaaGreatDoor
namespace Sh
set_option linter.unusedVariables false
section
variable {P : Program} {F : Fx} {N : Nat}

theorem out_upon {o : Oper} {a : Act} {next : Act → World → Prop} {Q : Exit → Act → World → Prop} {pk : Value → World → Prop} {K : Value → World → Prop} {r : Result Next} (h : OutP P pk K r)
    (hk : ∀ v w', K v w' → next (a.put o.dst v) w') (hp : ∀ v w', pk v w' → Q (.panic (onePanic v)) a w') : o.upon P a next Q r := by
  cases r with
  | halt x w =>
    cases x <;> try exact h.elim
    case panic v => exact hp _ _ h
  | ok n w =>
    cases n <;> try exact h.elim
    case value v => exact hk _ _ h
    case skip => exact hk _ _ h
    case enter f args =>
      refine Calls.mono h fun e w' he => ?_
      rcases he with ⟨v, rfl, hv⟩ | ⟨v, rfl, hv⟩
      · exact hk _ _ hv
      · exact hp _ _ hv

theorem fits_bool {E : Env} {a : Act} (h : Fits N E a) {s : Nat} {b : Bool} (hs : E.get? s = some (.bool b)) : a.tmps[s]? = some (.bool b) ∧ s < N := by
  obtain ⟨hlt, hg⟩ := h.get s _ hs
  have : s < a.tmps.size := by rw [h.size]; exact hlt
  refine ⟨?_, hlt⟩
  rw [Array.getElem?_eq_getElem this]
  simpa [Array.getD, this] using hg

theorem gdT_elim {ops : Array Oper} {E : Env} {o : Oper} {yes no : Env → Prop} {a : Act} (h : gdT ops E o yes no) (hf : Fits N E a) :
    (Region.wanted o (yielded ops a.tmps) = true ∧ ∃ E', Fits N E' a ∧ yes E') ∨ (Region.wanted o (yielded ops a.tmps) = false ∧ ∃ E', Fits N E' a ∧ no E') := by
  unfold gdT at h
  split at h
  · rename_i hg
    exact .inl ⟨by simp [Region.wanted, hg], E, hf, h⟩
  · rename_i j want hg
    split at h
    · rename_i s hs
      split at h
      · rename_i b hb
        obtain ⟨h1, h2⟩ := fits_bool hf hb
        have hy : yielded ops a.tmps j = some b := by simp [yielded, hs, h1]
        have hv : a.tmps.getD s undef = .bool b := (hf.get s _ hb).2
        split at h <;> rcases Br_elim h with ⟨rfl, h⟩ | ⟨rfl, h⟩
        · exact .inl ⟨by simp [Region.wanted, hg, hy], _, hf.cons h2 hv, h⟩
        · exact .inr ⟨by simp [Region.wanted, hg, hy], _, hf.cons h2 hv, h⟩
        · exact .inr ⟨by simp [Region.wanted, hg, hy], _, hf.cons h2 hv, h⟩
        · exact .inl ⟨by simp [Region.wanted, hg, hy], _, hf.cons h2 hv, h⟩
      · rename_i vs hb
        obtain ⟨hlt, hv⟩ := hf.get s _ hb
        have hlt' : s < a.tmps.size := by rw [hf.size]; exact hlt
        have h1 : a.tmps[s]? = some (.tuple vs) := by
          rw [Array.getElem?_eq_getElem hlt']
          simpa [Array.getD, hlt'] using hv
        have hy : yielded ops a.tmps j = none := by simp [yielded, hs, h1]
        exact .inr ⟨by simp [Region.wanted, hg, hy], E, hf, h⟩
      · exact h.elim
    · exact h.elim

def dstOk (N : Nat) (l : List Oper) : Prop := ∀ o ∈ l, ∀ d, o.dst = some d → d < N
def frame (l : List Oper) (a a' : Act) : Prop := (∀ t, (∀ o ∈ l, o.dst ≠ some t) → a'.tmps.getD t undef = a.tmps.getD t undef) ∧ a'.defers = a.defers
theorem frame.refl (l : List Oper) (a : Act) : frame l a a := ⟨fun _ _ => rfl, rfl⟩
theorem frame.put {l : List Oper} {a0 a : Act} {o : Oper} {v : Value} (h : frame l a0 a) (ho : o ∈ l) : frame l a0 (a.put o.dst v) :=
  ⟨fun t ht => by rw [put_frame (ht o ho)]; exact h.1 t ht, by rw [put_defers]; exact h.2⟩
theorem frame.unput {l : List Oper} {a0 a : Act} {o : Oper} {v : Value} (h : frame l a0 (a.put o.dst v)) (ho : o ∈ l) : frame l a0 a :=
  ⟨fun t ht => by rw [← h.1 t ht, put_frame (ht o ho)], by rw [← h.2, put_defers]⟩
theorem frame.sub {l m : List Oper} {a b : Act} (h : frame l a b) (hs : ∀ o ∈ l, o ∈ m) : frame m a b := ⟨fun t ht => h.1 t fun o ho => ht o (hs o ho), h.2⟩
theorem frame.trans {l : List Oper} {a b c : Act} (h : frame l a b) (k : frame l b c) : frame l a c := ⟨fun t ht => by rw [k.1 t ht]; exact h.1 t ht, by rw [k.2]; exact h.2⟩
theorem frame.cons {o : Oper} {l : List Oper} {a a' : Act} (h : frame l a a') : frame (o :: l) a a' := h.sub fun _ h => List.mem_cons_of_mem _ h

theorem frame_cons {o : Oper} {l : List Oper} {a a' : Act} {v : Value} (h : frame l (a.put o.dst v) a') : frame (o :: l) a a' :=
  ⟨fun t ht => by rw [h.1 t fun p hp => ht p (List.mem_cons_of_mem _ hp)]; exact put_frame (ht o List.mem_cons_self), by rw [h.2, put_defers]⟩
theorem Fits.some {N : Nat} {E : Env} {a : Act} (h : Fits N E a) : Fits N [] a := ⟨h.size, fun t v hv => by cases hv⟩
theorem Fits.unput {N : Nat} {a : Act} {d : Option Tmp} {v : Value} (h : Fits N [] (a.put d v)) : Fits N [] a := ⟨by have := h.size; cases d <;> simpa [Act.put] using this, fun t v hv => by cases hv⟩

theorem opsT_list (hF : CallsOk P F.ok) {ops : Array Oper} {Q : Exit → Act → World → Prop} : ∀ (l : List Oper) (E : Env) (w : World) (K : Env → World → Prop) (a : Act),
    opsT P F false ops l E w K → Fits N E a → dstOk N l → (∀ E' a' w', K E' w' → Fits N E' a' → frame l a a' → Q .normal a' w') →
    (∀ v a' w', F.pk v w' → Fits N [] a' → frame l a a' → Q (.panic (onePanic v)) a' w') → wpList P ops Q l a w
  | [], E, w, K, a, h, hf, _, hQ, _ => hQ E a w h hf (frame.refl _ _)
  | o :: r, E, w, K, a, h, hf, hd, hQ, hP => by
    have hd' : dstOk N r := fun p hp => hd p (List.mem_cons_of_mem _ hp)
    have ho := hd o List.mem_cons_self
    unfold wpList
    rcases gdT_elim h hf with ⟨hw, E', hf', hy⟩ | ⟨hw, E', hf', hn⟩
    · rw [if_pos hw]
      refine .inl ?_
      split at hy
      · rename_i hb
        simp only [Bool.and_eq_true] at hb
        unfold Oper.wp
        rw [hasAll_exec hf' hb.1]
        refine out_upon (opV_out hF hy) (fun v w' hk => ?_) fun v w' hp => hP v a w' hp hf.some (frame.refl _ _)
        exact opsT_list hF r _ w' K _ hk (hf'.put ho) hd' (fun E'' a' w'' h1 h2 h3 => hQ _ _ _ h1 h2 (frame_cons h3)) fun v a' w'' h1 h2 h3 => hP v a' w'' h1 h2 (frame_cons h3)
      · exact hy.elim
    · rw [if_neg (by rw [hw]; simp)]
      exact opsT_list hF r _ w K _ hn (hf'.put ho) hd' (fun E'' a' w'' h1 h2 h3 => hQ _ _ _ h1 h2 (frame_cons h3)) fun v a' w'' h1 h2 h3 => hP v a' w'' h1 h2 (frame_cons h3)

theorem opV_still {E : Env} {w : World} {K : Value → World → Prop} {o : Oper} (hs : stillOp P o.op = true) (h : opV P F true E o w K) : ∃ v, (execOp E.rho o).run P w = .ok (.value v) w ∧ K v w := by
  by_cases hl : ∃ t x, o.op = .load t x
  · obtain ⟨t, x, hl⟩ := hl
    obtain ⟨dst, op, type, pos, after, guard⟩ := o
    simp only at hl
    subst hl
    replace h : ldV P t (E.rho x) w fun v => K v w := h
    obtain ⟨v, h1, h2⟩ := ldV_run h
    exact ⟨v, by simp only [execOp, Sem.run_bind, h1, Result.andThen_ok, Sem.run_pure], h2⟩
  · obtain ⟨v, h1, h2⟩ := opV_q hs (fun t x e => hl ⟨t, x, e⟩) h
    exact ⟨v, h1 w, h2⟩

theorem opsT_still {ops : Array Oper} {Q : Act → Prop} : ∀ (l : List Oper) (E : Env) (w : World) (K : Env → World → Prop) (a : Act),
    opsT P F true ops l E w K → Fits N E a → dstOk N l → (∀ E' a', K E' w → Fits N E' a' → frame l a a' → Q a') → wpStill P ops w Q l a
  | [], E, w, K, a, h, hf, _, hQ => hQ E a h hf (frame.refl _ _)
  | o :: r, E, w, K, a, h, hf, hd, hQ => by
    have hd' : dstOk N r := fun p hp => hd p (List.mem_cons_of_mem _ hp)
    have ho := hd o List.mem_cons_self
    unfold wpStill
    rcases gdT_elim h hf with ⟨hw, E', hf', hy⟩ | ⟨hw, E', hf', hn⟩
    · rw [if_pos hw]
      split at hy
      · rename_i hb
        simp only [Bool.and_eq_true, Bool.not_true, Bool.false_or] at hb
        obtain ⟨v, h1, h2⟩ := opV_still hb.2 hy
        unfold Oper.still
        rw [hasAll_exec hf' hb.1, h1]
        exact ⟨rfl, opsT_still r _ w K _ h2 (hf'.put ho) hd' fun E'' a' h1 h2 h3 => hQ _ _ h1 h2 (frame_cons h3)⟩
      · exact hy.elim
    · rw [if_neg (by rw [hw]; simp)]
      exact opsT_still r _ w K _ hn (hf'.put ho) hd' fun E'' a' h1 h2 h3 => hQ _ _ h1 h2 (frame_cons h3)

theorem ldLQ_run {S : World → Prop} {a : Addr} {K : List Value → Prop} : ∀ (ts : List Ty1) (i : Nat), ldLQ S a i ts K →
    ∃ l : List Value, l.length = ts.length ∧ (∀ w, S w → ∀ j v, l[j]? = some v → w.cell? (a.add (i + j)) = some v) ∧ K l
  | [], _, h => ⟨[], rfl, by simp, h⟩
  | t :: ts, i, h => by
    obtain ⟨x, hx, hr⟩ := h
    obtain ⟨l, h1, h2, h3⟩ := ldLQ_run ts (i + 1) hr
    refine ⟨t.v x :: l, by simp [h1], fun w hw j v hj => ?_, h3⟩
    cases j with
    | zero => simp at hj; subst hj; simpa using hx w hw
    | succ j => have := h2 w hw j v (by simpa using hj); rw [show i + (j + 1) = i + 1 + j by omega]; exact this

theorem opQ_elim {S : World → Prop} {E : Env} {w : World} {K : Value → Prop} {o : Oper} (hs : stillOp P o.op = true) (h : opQ P F S E o w K) :
    ∃ v, (∀ w2, S w2 → (execOp E.rho o).run P w2 = .ok (.value v) w2) ∧ K v := by
  by_cases hl : ∃ t x, o.op = .load t x
  · obtain ⟨t, x, hl⟩ := hl
    obtain ⟨dst, op, type, pos, after, guard⟩ := o
    simp only at hl
    subst hl
    replace h : ldQ P S t (E.rho x) K := h
    unfold ldQ at h
    split at h
    · rename_i a hx
      have e : ∀ v w2, (loadVar t a).run P w2 = .ok v w2 → (execOp E.rho { dst := dst, op := .load t x, type := type, pos := pos, after := after, guard := guard }).run P w2 = .ok (.value v) w2 := fun v w2 hv => by
        simp only [execOp, hx, Instr.loadAt, Instr.sureAddr, Sem.run_bind, Sem.run_pure, Result.andThen_ok, hv]
      split at h
      · rename_i d n hd hn
        split at h
        · rename_i hg
          obtain ⟨v, h1, h2⟩ := h
          refine ⟨_, fun w2 hw => e _ _ ?_, h2⟩
          simp only [loadVar, Sem.run_bind, run_isAgg hd, hg, Result.andThen_ok, Bool.false_eq_true, if_false, run_loadOne (h1 w2 hw)]
        · rename_i hg
          split at h
          · rename_i ts _
            split at h
            · rename_i hlen
              obtain ⟨l, h1, h2, h3⟩ := ldLQ_run ts 0 h
              refine ⟨_, fun w2 hw => e _ _ ?_, h3⟩
              have hl : l.length = n := by rw [h1]; exact beq_eq hlen
              have := run_loadCells_list (P := P) w2 a l (fun j v hj => by simpa using h2 w2 hw j v hj)
              simp only [loadVar, Sem.run_bind, run_isAgg hd, hg, Result.andThen_ok, if_true, run_size hn, ← hl, this, Sem.run_pure]
            · exact h.elim
          · obtain ⟨v, h1, h2⟩ := h
            exact ⟨v, fun w2 hw => e _ _ (h1 w2 hw), h2⟩
      · exact h.elim
    · exact h.elim
  · have h' : opV P F true E o w fun v _ => K v := by
      unfold opQ at h
      split at h
      · rename_i t x hx
        exact (hl ⟨t, x, hx⟩).elim
      · exact h
    obtain ⟨v, h1, h2⟩ := opV_q hs (fun t x e => hl ⟨t, x, e⟩) h'
    exact ⟨v, fun w2 _ => h1 w2, h2⟩

/-! ### Regions where what was known of the world ends with an operation -/

def Closed (ops : Array Oper) (L : Array Bool) : Prop := ∀ j o, ops[j]? = some o → L.getD j false = true → ∀ e ∈ o.after, Region.binds .any e = true → L.getD e.on false = true
theorem Closed.start (ops : Array Oper) (n : Nat) : Closed ops (Array.replicate n false) := fun j o _ h => by
  simp only [Array.getD_eq_getD_getElem?, Array.getElem?_replicate] at h
  split at h <;> simp at h
theorem Closed.set {ops : Array Oper} {L : Array Bool} {j : Nat} (h : Closed ops L) (hj : j ∈ Region.ready .any ops L) : Closed ops (L.setIfInBounds j true) := fun k o ho hk e he hb => by
  by_cases hkj : j = k
  · subst hkj
    obtain ⟨_, o', ho', hall⟩ := mem_ready.1 hj
    rw [ho] at ho'
    cases ho'
    exact getD_set_true (hall e he hb)
  · rw [getD_set_ne false hkj] at hk
    exact getD_set_true (h k o ho hk e he hb)
theorem markL_spec {L : Array Bool} : ∀ (es : List Edge) (m : Array Bool), (∀ e ∈ es, Region.binds .any e = true → L.getD e.on false = true) → (∀ k, m.getD k false = true → L.getD k false = true) →
    ∀ k, (markL es m).getD k false = true → L.getD k false = true
  | [], _, _, h, k, hk => h k hk
  | e :: es, m, he, h, k, hk => by
    unfold markL at hk
    rw [List.foldl_cons] at hk
    refine markL_spec es _ (fun e' h' => he e' (List.mem_cons_of_mem _ h')) (fun i hi => ?_) k hk
    split at hi
    · rename_i hb
      by_cases hei : e.on = i
      · subst hei; exact he e List.mem_cons_self hb
      · rw [getD_set_ne false hei] at hi; exact h i hi
    · exact h i hi
theorem ancL_spec {ops : Array Oper} {L : Array Bool} (hL : Closed ops L) : ∀ (n : Nat) (m : Array Bool), (∀ k, m.getD k false = true → L.getD k false = true) → ∀ k, (ancL ops n m).getD k false = true → L.getD k false = true
  | 0, _, h, k, hk => h k hk
  | n + 1, m, h, k, hk => by
    unfold ancL at hk
    refine ancL_spec hL n _ (fun i hi => ?_) k hk
    split at hi
    · rename_i o hm ho
      exact markL_spec _ _ (fun e he hb => hL n o ho (h n hm) e (by simpa using he) hb) h i hi
    · exact h i hi
theorem anc_spec {ops : Array Oper} {L : Array Bool} (hL : Closed ops L) {i j : Nat} (ha : anc ops j i = true) (hj : j ∈ Region.ready .any ops L) (hi : i ∈ Region.ready .any ops L) : False := by
  obtain ⟨_, o, ho, hall⟩ := mem_ready.1 hj
  unfold anc at ha
  rw [ho] at ha
  have h1 := ancL_spec hL j _ (markL_spec o.after.toList _ (fun e he hb => hall e (by simpa using he) hb) (fun k hk => by
    simp only [Array.getD_eq_getD_getElem?, Array.getElem?_replicate] at hk
    split at hk <;> simp at hk)) i ha
  have h0 := (mem_ready.1 hi).1
  rcases Nat.lt_or_ge i L.size with h' | h'
  · simp [h'] at h0 h1; rw [h0] at h1; cases h1
  · simp [Array.getElem?_eq_none h'] at h1

section
variable {ops : Array Oper} {Q : Exit → Act → World → Prop} {S : World → Prop} {J : List Nat}
def wpAnyK (P : Program) (ops : Array Oper) (Q : Exit → Act → World → Prop) (J : List Nat) (S : World → Prop) : Nat → Array Bool → Act → World → Prop
  | 0, listed, a, w => Region.ready .any ops listed = [] ∧ Q .normal a w
  | fuel + 1, listed, a, w => (Region.ready .any ops listed = [] → Q .normal a w) ∧ ∀ i ∈ Region.ready .any ops listed,
    if J.contains i = true then wpOp P ops Q i (fun a' w' => wpAny P .any ops Q fuel (listed.setIfInBounds i true) a' w') a w
    else wpOp P ops Q i (fun a' w' => S w' ∧ wpAnyK P ops Q J S fuel (listed.setIfInBounds i true) a' w') a w
theorem wpAny_of_K : ∀ (fuel : Nat) (listed : Array Bool) (a : Act) (w : World), wpAnyK P ops Q J S fuel listed a w → wpAny P .any ops Q fuel listed a w
  | 0, _, _, _, h => h
  | fuel + 1, _, _, _, h => ⟨h.1, fun i hi => by
    have := h.2 i hi
    split at this
    · exact this
    · exact wpOp_mono (fun a' w' h' => wpAny_of_K fuel _ a' w' h'.2) this⟩
def CanTake (P : Program) (ops : Array Oper) (J : List Nat) (S : World → Prop) (i : Nat) (oi : Oper) (v : Value) (a : Act) : Prop :=
  Yields P ops oi v a ∨ (YieldsIf P ops S oi v a ∧ ∀ j ∈ J, anc ops j i = true)
theorem CanTake.yieldsIf {i : Nat} {oi : Oper} {v : Value} {a : Act} (h : CanTake P ops J S i oi v a) : YieldsIf P ops S oi v a := h.elim (fun h => h.yieldsIf) (fun h => h.1)
theorem wpAnyK_first {i : Nat} {oi : Oper} {v : Value} (hi : ops[i]? = some oi) (hsel : ∀ (j : Nat) (o : Oper) cs b, ops[j]? = some o → o.op ≠ .select cs b)
    (hQ : ∀ c a w, Q (.panic c) (a.put oi.dst v) w → Q (.panic c) a w) :
    ∀ (fuel : Nat) (listed : Array Bool) (a : Act) (w : World),
      (∀ j oj, ops[j]? = some oj → j ≠ i → listed.getD j true = false → (∀ e ∈ oj.after, Region.binds .any e = true → e.on ≠ i) → oi.apart ops oj = true) →
      Closed ops listed → i ∈ Region.ready .any ops listed → CanTake P ops J S i oi v a → S w →
      wpAnyK P ops Q J S fuel (listed.setIfInBounds i true) (a.put oi.dst v) w → wpAnyK P ops Q J S (fuel + 1) listed a w := by
  intro fuel
  have self : ∀ (fuel : Nat) (listed : Array Bool) (a : Act) (w : World), CanTake P ops J S i oi v a → S w → wpAnyK P ops Q J S fuel (listed.setIfInBounds i true) (a.put oi.dst v) w →
      (if J.contains i = true then wpOp P ops Q i (fun a' w' => wpAny P .any ops Q fuel (listed.setIfInBounds i true) a' w') a w
        else wpOp P ops Q i (fun a' w' => S w' ∧ wpAnyK P ops Q J S fuel (listed.setIfInBounds i true) a' w') a w) := fun fuel listed a w hy hS H => by
    split
    · exact hy.yieldsIf.wpOp hi hS (wpAny_of_K _ _ _ _ H)
    · exact hy.yieldsIf.wpOp hi hS ⟨hS, H⟩
  induction fuel with
  | zero =>
    intro listed a w _ _ hr hy hS H
    refine ⟨fun h => (by rw [h] at hr; cases hr), fun j hj => ?_⟩
    by_cases hji : j = i
    · subst hji; exact self 0 listed a w hy hS H
    · have := ready_mono hj hji
      rw [H.1] at this
      cases this
  | succ fuel ih =>
    intro listed a w hfree hcl hr hy hS H
    refine ⟨fun h => (by rw [h] at hr; cases hr), fun j hj => ?_⟩
    by_cases hji : j = i
    · subst hji; exact self _ listed a w hy hS H
    · have h1 := H.2 j (ready_mono hj hji)
      obtain ⟨hjun, oj, hoj, hall⟩ := mem_ready.1 hj
      have hnot : ∀ e ∈ oj.after, Region.binds .any e = true → e.on ≠ i := fun e he hb heq => by
        have h1 := hall e he hb
        have h0 := (mem_ready.1 hr).1
        rw [heq] at h1
        rcases Nat.lt_or_ge i listed.size with h' | h'
        · simp [h'] at h0 h1; rw [h0] at h1; cases h1
        · simp [Array.getElem?_eq_none h'] at h1
      have hfree' : ∀ k ok, ops[k]? = some ok → k ≠ i → (listed.setIfInBounds j true).getD k true = false →
          (∀ e ∈ ok.after, Region.binds .any e = true → e.on ≠ i) → oi.apart ops ok = true := fun k ok hk hki hun hno => by
        refine hfree k ok hk hki ?_ hno
        by_cases hjk : j = k
        · subst hjk; exact hjun
        · rw [getD_set_ne true hjk] at hun; exact hun
      have hap := hfree j oj hoj hji hjun hnot
      split at h1
      · rename_i hJ
        rw [if_pos hJ]
        rcases hy with hy | ⟨_, hy⟩
        · have h2 := wpOp_put hoj hap (fun cs b => hsel i oi cs b hi) (fun cs b => hsel j oj cs b hoj) hQ hy h1
          refine wpOp_mono (fun a' w' h3 => wpAny_first hi hsel hQ fuel _ a' w' hfree' (ready_mono hr (Ne.symm hji)) h3.1 ?_) h2
          rw [Array.setIfInBounds_comm _ _ hji]
          exact h3.2
        · exact (anc_spec hcl (hy j (by simpa using hJ)) hj hr).elim
      · rename_i hJ
        rw [if_neg hJ]
        have step : wpOp P ops Q j (fun a' w' => CanTake P ops J S i oi v a' ∧ S w' ∧ wpAnyK P ops Q J S fuel ((listed.setIfInBounds i true).setIfInBounds j true) (a'.put oi.dst v) w') a w := by
          rcases hy with hy | ⟨hy, hyJ⟩
          · exact wpOp_mono (fun a' w' h3 => ⟨.inl h3.1, h3.2⟩) (wpOp_put hoj hap (fun cs b => hsel i oi cs b hi) (fun cs b => hsel j oj cs b hoj) hQ hy h1)
          · exact wpOp_mono (fun a' w' h3 => ⟨.inr ⟨h3.1, hyJ⟩, h3.2⟩) (wpOp_putIf hoj hap (fun cs b => hsel i oi cs b hi) (fun cs b => hsel j oj cs b hoj) hQ hy h1)
        refine wpOp_mono (fun a' w' h3 => ⟨h3.2.1, ih (listed.setIfInBounds j true) a' w' hfree' (hcl.set hj) (ready_mono hr (Ne.symm hji)) h3.1 h3.2.1 ?_⟩) step
        rw [Array.setIfInBounds_comm _ _ hji]
        exact h3.2.2
end

/-- What an operation yields in every world, if it is no load. -/
theorem opQ_every {S : World → Prop} {E : Env} {w : World} {K : Value → Prop} {o : Oper} (hs : stillOp P o.op = true) (hl : isLoad o.op = false) (h : opQ P F S E o w K) :
    ∃ v, (∀ w2, (execOp E.rho o).run P w2 = .ok (.value v) w2) ∧ K v := by
  have hl' : ∀ t x, o.op ≠ .load t x := fun t x e => by rw [e] at hl; cases hl
  have h' : opV P F true E o w fun v _ => K v := by
    unfold opQ at h
    split at h
    · rename_i t x hx
      exact (hl' t x hx).elim
    · exact h
  obtain ⟨v, h1, h2⟩ := opV_q hs hl' h'
  exact ⟨v, h1, h2⟩

/-- One that comes up. -/
theorem effT_op (hF : CallsOk P F.ok) {ops : Array Oper} {Q : Exit → Act → World → Prop} {J : List Nat} {S : World → Prop} {i : Nat} {fl : Option (List Nat)} {lo : Bool} {E : Env} {w : World} {o : Oper} {a : Act}
    {fuel : Nat} {listed : Array Bool} {k : List Nat → (World → Prop) → Env → World → Prop} (ho : ops[i]? = some o) (hS : S w) (hf : Fits N E a) (hd : ∀ t, o.dst = some t → t < N)
    (hp : ∀ v w', F.pk v w' → Q (.panic (onePanic v)) a w') (h : effT P F ops J S i fl lo E w o k) (hk : ∀ J S E' v w', k J S E' w' → S w' → Fits N E' (a.put o.dst v) → wpAnyK P ops Q J S fuel (listed.setIfInBounds i true) (a.put o.dst v) w') :
    if J.contains i = true then wpOp P ops Q i (fun a' w' => wpAny P .any ops Q fuel (listed.setIfInBounds i true) a' w') a w
    else wpOp P ops Q i (fun a' w' => S w' ∧ wpAnyK P ops Q J S fuel (listed.setIfInBounds i true) a' w') a w := by
  have ph : ∀ (J' : List Nat) (E' : Env) (v : Value) (w' : World), phT lo w' (fun S => k J' S E' w') → Fits N E' (a.put o.dst v) → wpAny P .any ops Q fuel (listed.setIfInBounds i true) (a.put o.dst v) w' := fun J' E' v w' h hf => by
    unfold phT at h
    split at h
    · obtain ⟨S', h1, h2⟩ := h
      exact wpAny_of_K _ _ _ _ (hk _ _ _ _ _ h2 h1 hf)
    · exact wpAny_of_K _ _ _ _ (hk _ _ _ _ _ h trivial hf)
  unfold effT at h
  split at h
  · rename_i hJ
    rw [if_neg (by rw [hJ]; simp)]
    unfold wpOp
    simp only [ho]
    rcases gdT_elim h hf with ⟨hw, E', hf', hy⟩ | ⟨hw, E', hf', hn⟩
    · rw [if_pos hw]
      split at hy
      · rename_i hall
        refine .inl ?_
        unfold Oper.wp
        rw [hasAll_exec hf' hall]
        exact out_upon (opV_out hF hy) (fun v w' hv => ⟨hv.1, hk _ _ _ _ _ hv.2 hv.1 (hf'.put hd)⟩) hp
      · exact hy.elim
    · rw [if_neg (by rw [hw]; simp)]
      exact ⟨hS, hk _ _ _ _ _ hn hS (hf'.put hd)⟩
  · rename_i J' hJ
    rw [if_pos hJ]
    unfold wpOp
    simp only [ho]
    rcases gdT_elim h hf with ⟨hw, E', hf', hy⟩ | ⟨hw, E', hf', hn⟩
    · rw [if_pos hw]
      split at hy
      · rename_i hall
        refine .inl ?_
        unfold Oper.wp
        rw [hasAll_exec hf' hall]
        exact out_upon (opV_out hF hy) (fun v w' hv => ph _ _ _ _ hv (hf'.put hd)) hp
      · exact hy.elim
    · rw [if_neg (by rw [hw]; simp)]
      exact ph _ _ _ _ hn (hf'.put hd)
  · exact h.elim

/-! ### Operations that come up in any order, each of which keeps what is known -/

theorem notIn_spec {x : Nat} : ∀ {l : List Nat}, notIn x l = true → x ∉ l
  | [], _, h => by cases h
  | y :: r, h, hm => by
    simp only [notIn, Bool.and_eq_true, Bool.not_eq_true'] at h
    rcases List.mem_cons.1 hm with rfl | hm
    · simp at h
    · exact notIn_spec h.2 hm
theorem distinct_spec : ∀ {l : List Nat}, distinct l = true → l.Nodup
  | [], _ => List.nodup_nil
  | x :: r, h => by
    simp only [distinct, Bool.and_eq_true] at h
    exact List.nodup_cons.2 ⟨notIn_spec h.1, distinct_spec h.2⟩
theorem size_markJs : ∀ (js : List Nat) (l : Array Bool), (markJs l js).size = l.size
  | [], _ => rfl
  | j :: js, l => by rw [markJs, size_markJs js]; simp
theorem getD_markJs (k : Nat) : ∀ (js : List Nat) (l : Array Bool), (∀ j ∈ js, j < l.size) → ((markJs l js).getD k false = true ↔ l.getD k false = true ∨ k ∈ js)
  | [], l, _ => by simp [markJs]
  | j :: js, l, h => by
    rw [markJs, getD_markJs k js _ (fun i hi => by simpa using h i (List.mem_cons_of_mem _ hi))]
    have hj := h j List.mem_cons_self
    by_cases hkj : j = k
    · subst hkj
      simp [Array.getD, hj]
    · rw [getD_set_ne false hkj]
      simp only [List.mem_cons]
      constructor
      · rintro (h | h)
        · exact .inl h
        · exact .inr (.inr h)
      · rintro (h | h | h)
        · exact .inl h
        · exact absurd h.symm hkj
        · exact .inr h
section
variable {ops : Array Oper}
/-- What is known of the values of those that are listed. -/
def GHeld (N : Nat) (Gs : List GEntry) (listed : Array Bool) (a : Act) (w : World) : Prop :=
  ∀ e ∈ Gs, listed.getD e.j false = true → e.dst < N ∧ ∃ x : e.ty.T, e.G x w ∧ a.tmps.getD e.dst undef = e.ty.v x
theorem depsT_elim {o : Oper} {listed : Array Bool} {a : Act} {w : World} {k : Env → Prop} : ∀ (l : List GEntry) (E : Env), depsT o l E w k → Fits N E a → GHeld N l listed a w → (∀ e ∈ l, usesTmp o.op e.dst = true → listed.getD e.j false = true) →
    ∃ E', Fits N E' a ∧ k E'
  | [], E, h, hf, _, _ => ⟨E, hf, h⟩
  | e :: r, E, h, hf, hg, hu => by
    have hg' : GHeld N r listed a w := fun e he => hg e (List.mem_cons_of_mem _ he)
    have hu' : ∀ e ∈ r, usesTmp o.op e.dst = true → listed.getD e.j false = true := fun e he => hu e (List.mem_cons_of_mem _ he)
    unfold depsT at h
    split at h
    · rename_i hb
      obtain ⟨hlt, x, hx, hv⟩ := hg e List.mem_cons_self (hu e List.mem_cons_self hb)
      exact depsT_elim r _ (h x hx) (hf.cons hlt hv) hg' hu'
    · exact depsT_elim r E h hf hg' hu'
theorem depsAll_elim {listed : Array Bool} {a : Act} {w : World} {k : Env → Prop} : ∀ (l : List GEntry) (E : Env), depsAll l E w k → Fits N E a → GHeld N l listed a w → (∀ e ∈ l, listed.getD e.j false = true) → ∃ E', Fits N E' a ∧ k E'
  | [], E, h, hf, _, _ => ⟨E, hf, h⟩
  | e :: r, E, h, hf, hg, hu => by
    obtain ⟨hlt, x, hx, hv⟩ := hg e List.mem_cons_self (hu e List.mem_cons_self)
    exact depsAll_elim r _ (h x hx) (hf.cons hlt hv) (fun e he => hg e (List.mem_cons_of_mem _ he)) (fun e he => hu e (List.mem_cons_of_mem _ he))
/-- How the entries hang together with the operations. -/
def GsOk (ops : Array Oper) (le : World → World → Prop) (Gs : List GEntry) : Prop := ∀ e ∈ Gs, (∃ o, ops[e.j]? = some o ∧ o.dst = some e.dst) ∧ ∀ x w w', le w w' → e.G x w → e.G x w'
theorem monoG_elim {le : World → World → Prop} {k : List GEntry → Prop} : ∀ (js : List Nat) (acc : List GEntry), monoG P ops le js acc k → GsOk ops le acc → ∃ Gs, GsOk ops le Gs ∧ Gs.map (·.j) = acc.map (·.j) ++ js ∧ k Gs
  | [], acc, h, hg => ⟨acc, hg, by simp, h⟩
  | j :: js, acc, h, hg => by
    unfold monoG at h
    split at h
    · rename_i o ho
      split at h
      · rename_i d hd
        obtain ⟨G, hG, h⟩ := h
        obtain ⟨Gs, h1, h2, h3⟩ := monoG_elim js _ h (fun e he => by
          rcases List.mem_append.1 he with he | he
          · exact hg e he
          · rw [List.mem_singleton.1 he]
            exact ⟨⟨o, ho, hd⟩, hG⟩)
        exact ⟨Gs, h1, by rw [h2]; simp, h3⟩
      · exact h.elim
    · exact h.elim
theorem monoI_elim {S : World → Prop} {le : World → World → Prop} {B : World → Prop} {E : Env} {all : List GEntry} : ∀ (l : List GEntry), monoI P F ops S le B E all l → ∀ e ∈ l, ∃ o, ops[e.j]? = some o ∧ ∀ w, S w → B w → depsT o all E w fun E' => match hasAll E' o.op with
      | true => opV P F false E' o w fun v w' => S w' ∧ B w' ∧ le w w' ∧ ∃ x : e.ty.T, v = e.ty.v x ∧ e.G x w'
      | false => False
  | [], _, e, he => by cases he
  | e :: r, h, e', he => by
    obtain ⟨h1, h2⟩ := h
    rcases List.mem_cons.1 he with rfl | he
    · split at h1
      · rename_i o ho
        exact ⟨o, ho, h1⟩
      · exact h1.elim
    · exact monoI_elim r h2 e' he
theorem exists_least (p : Nat → Prop) : ∀ (n : Nat), (∃ m, m < n ∧ p m) → ∃ m, p m ∧ ∀ k, k < m → ¬ p k
  | 0, ⟨m, h, _⟩ => by omega
  | n + 1, h => by
    by_cases h' : ∃ m, m < n ∧ p m
    · exact exists_least p n h'
    · obtain ⟨m, hm, hp⟩ := h
      refine ⟨m, hp, fun k hk hk2 => h' ⟨k, by omega, hk2⟩⟩
theorem monoOk_spec {listed : Array Bool} {js : List Nat} {E : Env} (h : monoOk ops listed js E = true) : js.Nodup ∧ (js.map (dstOf ops)).Nodup ∧
    (∀ j ∈ js, ∃ o, ops[j]? = some o ∧ o.guard = none ∧ listed.getD j true = false ∧ E.get? (dstOf ops j) = none ∧
      (∀ e ∈ o.after, Region.binds .any e = true → listed.getD e.on false = true ∨ (e.on ∈ js ∧ e.on < j)) ∧
      (∀ j' ∈ js, usesTmp o.op (dstOf ops j') = true → ∃ e ∈ o.after, Region.binds .any e = true ∧ e.on = j')) ∧
    (∀ k, k < ops.size → listed.getD k true = false → k ∉ js → ∀ j ∈ js, anc ops k j = true) := by
  unfold monoOk at h
  simp only [Bool.and_eq_true] at h
  obtain ⟨⟨⟨h1, h2⟩, h3⟩, h4⟩ := h
  refine ⟨distinct_spec h1, distinct_spec h2, fun j hj => ?_, fun k hk hl hn j hj => ?_⟩
  · have := List.all_eq_true.1 h3 j hj
    split at this
    · rename_i o ho
      simp only [Bool.and_eq_true, Bool.not_eq_true', Option.isNone_iff_eq_none] at this
      obtain ⟨⟨⟨⟨⟨g1, g2⟩, g3⟩, g4⟩, g5⟩, g6⟩ := this
      refine ⟨o, ho, g1, g3, by simpa using g4, fun e he hb => ?_, fun j' hj' hu => ?_⟩
      · have := List.all_eq_true.1 g5 e (by simpa using he)
        simp only [Bool.or_eq_true, Bool.not_eq_true', Bool.and_eq_true] at this
        rcases this with (h | h) | h
        · rw [hb] at h; cases h
        · exact .inl h
        · exact .inr ⟨by simpa using h.1, Nat.le_of_ble_eq_true h.2⟩
      · have := List.all_eq_true.1 g6 j' hj'
        simp only [Bool.or_eq_true, Bool.not_eq_true'] at this
        rcases this with h | h
        · rw [hu] at h; cases h
        · obtain ⟨e, he, h⟩ := List.any_eq_true.1 h
          simp only [Bool.and_eq_true] at h
          exact ⟨e, by simpa using he, h.1, beq_eq h.2⟩
    · cases this
  · have := List.all_eq_true.1 h4 k (List.mem_range.2 hk)
    simp only [Bool.or_eq_true] at this
    rcases this with (h | h) | h
    · rw [hl] at h; cases h
    · exact absurd (by simpa using h) hn
    · exact List.all_eq_true.1 h j hj
end
/-- How a region may end. -/
def HQ (P : Program) (F : Fx) (N : Nat) (ops : Array Oper) (a0 : Act) (G : Act → World → Prop) (e : Exit) (a' : Act) (w' : World) : Prop :=
  (e = .normal ∧ G a' w') ∨ ∃ v, e = .panic (onePanic v) ∧ F.pk v w' ∧ Fits N [] a' ∧ frame ops.toList a0 a'
theorem HQ.unput {ops : Array Oper} {a0 : Act} {G : Act → World → Prop} {c : List PanicEntry} {a : Act} {o : Oper} {v : Value} {w : World} (h : HQ P F N ops a0 G (.panic c) (a.put o.dst v) w) (ho : o ∈ ops.toList) : HQ P F N ops a0 G (.panic c) a w := by
  rcases h with ⟨h, _⟩ | ⟨u, h1, h2, h3, h4⟩
  · cases h
  · exact .inr ⟨u, h1, h2, h3.unput, h4.unput ho⟩

/-- The turn of those that come up in any order. -/
theorem mono_any (hF : CallsOk P F.ok) {ops : Array Oper} {G : Act → World → Prop} {a0 : Act} {J : List Nat} {S : World → Prop} {listed0 : Array Bool} {js : List Nat} {E : Env} {le : World → World → Prop} {B : World → Prop} {Gs : List GEntry} {n : Nat}
    (hd : dstOk N ops.toList) (hJ : ∀ j ∈ js, J.contains j = false) (hok : monoOk ops listed0 js E = true) (hGs : GsOk ops le Gs) (hjs : Gs.map (·.j) = js) (hI : monoI P F ops S le B E Gs Gs)
    (hend : ∀ a w fuel, n ≤ fuel → S w → B w → Closed ops (markJs listed0 js) → frame ops.toList a0 a → (∀ k : Env → Prop, depsAll Gs E w k → ∃ E', Fits N E' a ∧ k E') → wpAnyK P ops (HQ P F N ops a0 G) J S fuel (markJs listed0 js) a w) :
    ∀ (m : Nat) (listed : Array Bool) (a : Act) (w : World) (fuel : Nat), (js.filter fun j => !listed.getD j false).length = m → n + m ≤ fuel → listed.size = listed0.size → (∀ k, listed.getD k false = true → listed0.getD k false = true ∨ k ∈ js) →
      (∀ k, listed0.getD k false = true → listed.getD k false = true) → Closed ops listed → S w → B w → Fits N E a → frame ops.toList a0 a → GHeld N Gs listed a w → wpAnyK P ops (HQ P F N ops a0 G) J S fuel listed a w := by
  obtain ⟨hnd, hdn, hop, hout⟩ := monoOk_spec hok
  have hlt : ∀ j ∈ js, j < listed0.size := fun j hj => by
    obtain ⟨o, _, _, h, _⟩ := hop j hj
    rcases Nat.lt_or_ge j listed0.size with h' | h'
    · exact h'
    · simp [Array.getElem?_eq_none h'] at h
  intro m
  induction m with
  | zero =>
    intro listed a w fuel hm hfu hsz hin hback hcl hS hB hf hfr hg
    have hall : ∀ j ∈ js, listed.getD j false = true := fun j hj => by
      have h0 := List.eq_nil_of_length_eq_zero hm
      cases hx : listed.getD j false with
      | true => rfl
      | false =>
        have : j ∈ js.filter fun j => !listed.getD j false := List.mem_filter.2 ⟨hj, by rw [hx]; rfl⟩
        rw [h0] at this
        cases this
    have heq : listed = markJs listed0 js := by
      refine Array.ext (by rw [size_markJs, hsz]) fun k h1 h2 => ?_
      have e1 : listed.getD k false = listed[k] := by simp [Array.getD, h1]
      have e2 : (markJs listed0 js).getD k false = (markJs listed0 js)[k] := by simp [Array.getD, h2]
      rw [← e1, ← e2, Bool.eq_iff_iff, getD_markJs k js listed0 hlt]
      exact ⟨hin k, fun h => h.elim (hback k) (hall k)⟩
    have hge : ∀ e ∈ Gs, listed.getD e.j false = true := fun e he => hall e.j (by rw [← hjs]; exact List.mem_map_of_mem he)
    have key : ∀ k : Env → Prop, depsAll Gs E w k → ∃ E', Fits N E' a ∧ k E' := fun k hk => depsAll_elim Gs E hk hf hg hge
    subst heq
    exact hend a w fuel (by omega) hS hB hcl hfr key
  | succ m ih =>
    intro listed a w fuel hm hfu hsz hin hback hcl hS hB hf hfr hg
    obtain ⟨fuel, rfl⟩ : ∃ n, fuel = n + 1 := ⟨fuel - 1, by omega⟩
    -- one that is ready
    have hun : ∃ j, j < listed0.size ∧ (j ∈ js ∧ listed.getD j false = false) := by
      have : (js.filter fun j => !listed.getD j false) ≠ [] := fun h => by rw [h] at hm; cases hm
      obtain ⟨j, hj⟩ := List.exists_mem_of_ne_nil _ this
      obtain ⟨h1, h2⟩ := List.mem_filter.1 hj
      exact ⟨j, hlt j h1, h1, by simpa using h2⟩
    obtain ⟨j0, ⟨hj0, hl0⟩, hleast⟩ := exists_least _ _ hun
    have getT : ∀ k, k < listed0.size → listed.getD k false = false → listed.getD k true = false := fun k hk h => by
      have : k < listed.size := by omega
      simpa [Array.getD, this] using h
    have hr0 : j0 ∈ Region.ready .any ops listed := by
      obtain ⟨o, ho, _, _, _, haf, _⟩ := hop j0 hj0
      refine mem_ready.2 ⟨getT j0 (hlt j0 hj0) hl0, o, ho, fun e he hb => ?_⟩
      rcases haf e he hb with h | ⟨h1, h2⟩
      · exact hback _ h
      · cases hx : listed.getD e.on false with
        | true => rfl
        | false => exact absurd ⟨h1, hx⟩ (hleast e.on h2)
    refine ⟨fun h => (by rw [h] at hr0; cases hr0), fun i hi => ?_⟩
    obtain ⟨hil, oi, hoi, hall⟩ := mem_ready.1 hi
    have hij : i ∈ js := by
      refine Decidable.byContradiction fun hn => ?_
      have hlt' : i < ops.size := (Array.getElem?_eq_some_iff.1 hoi).1
      have hl0' : listed0.getD i true = false := by
        have h1 : listed.getD i false = false := by
          cases hx : listed.getD i false with
          | false => rfl
          | true =>
            have : i < listed.size := by
              rcases Nat.lt_or_ge i listed.size with h' | h'
              · exact h'
              · simp [Array.getElem?_eq_none h'] at hil
            simp [Array.getD, this] at hil hx
            rw [hil] at hx; cases hx
        cases hx : listed0.getD i false with
        | true => rw [hback i hx] at h1; cases h1
        | false =>
          have : i < listed0.size := by
            rcases Nat.lt_or_ge i listed.size with h' | h'
            · omega
            · simp [Array.getElem?_eq_none h'] at hil
          simpa [Array.getD, this] using hx
      exact anc_spec hcl (hout i hlt' hl0' hn j0 hj0) hi hr0
    rw [if_neg (by rw [hJ i hij]; simp)]
    obtain ⟨e, he, hej⟩ : ∃ e ∈ Gs, e.j = i := by
      have : i ∈ Gs.map (·.j) := by rw [hjs]; exact hij
      obtain ⟨e, he, h⟩ := List.mem_map.1 this
      exact ⟨e, he, h⟩
    obtain ⟨o, ho, hgd, _, hEn, _, hus⟩ := hop i hij
    rw [hoi] at ho
    cases ho
    obtain ⟨o', ho', hobl⟩ := monoI_elim Gs hI e he
    rw [hej, hoi] at ho'
    cases ho'
    obtain ⟨⟨o'', ho'', hdst⟩, _⟩ := hGs e he
    rw [hej, hoi] at ho''
    cases ho''
    have hdste : dstOf ops i = e.dst := by unfold dstOf; rw [hoi]; simp [hdst]
    have hom : oi ∈ ops.toList := by
      have := Array.mem_of_getElem? hoi
      simpa using this
    have hdN : e.dst < N := hd oi hom e.dst hdst
    obtain ⟨E', hf', hk⟩ := depsT_elim Gs E (hobl w hS hB) hf hg fun e' he' hu => by
      have hj' : e'.j ∈ js := by rw [← hjs]; exact List.mem_map_of_mem he'
      obtain ⟨⟨o3, ho3, hd3⟩, _⟩ := hGs e' he'
      have : dstOf ops e'.j = e'.dst := by unfold dstOf; rw [ho3]; simp [hd3]
      obtain ⟨ed, hed, hb, hon⟩ := hus e'.j hj' (by rw [this]; exact hu)
      rw [← hon]
      exact hall ed hed hb
    split at hk
    · rename_i hha
      unfold wpOp
      simp only [hoi]
      rw [if_pos (by simp [Region.wanted, hgd])]
      refine .inl ?_
      unfold Oper.wp
      rw [hasAll_exec hf' hha]
      refine out_upon (opV_out hF hk) (fun v w' hv => ?_) fun v w' hp => .inr ⟨v, rfl, hp, hf.some, hfr⟩
      obtain ⟨hS', hB', hle, x, rfl, hx⟩ := hv
      refine ⟨hS', ih (listed.setIfInBounds i true) (a.put oi.dst (e.ty.v x)) w' fuel ?_ (by omega) (by simpa using hsz) (fun k hk => ?_) (fun k hk => ?_) (hcl.set hi) hS' hB' ?_ (hfr.put hom) ?_⟩
      · have hlti : i < listed.size := by have := hlt i hij; omega
        have hgi : listed.getD i false = false := by simpa [Array.getD, hlti] using hil
        have hpe : ∀ j, (!(listed.setIfInBounds i true).getD j false) = ((!listed.getD j false) && (j != i)) := fun j => by
          by_cases hji : i = j
          · subst hji
            rw [getD_set_eq _ _ _ _ hlti]
            simp
          · rw [getD_set_ne false hji]
            have : (j != i) = true := by simp; omega
            rw [this, Bool.and_true]
        have hfil : (js.filter fun j => !(listed.setIfInBounds i true).getD j false) = (js.filter fun j => !listed.getD j false).erase i := by
          rw [List.Nodup.erase_eq_filter (List.Pairwise.filter _ hnd), List.filter_filter]
          refine List.filter_congr fun j _ => ?_
          rw [hpe, Bool.and_comm]
        rw [hfil, List.length_erase_of_mem (List.mem_filter.2 ⟨hij, by rw [hgi]; rfl⟩), hm]
        rfl
      · by_cases hki : i = k
        · subst hki; exact .inr hij
        · rw [getD_set_ne false hki] at hk; exact hin k hk
      · exact getD_set_true (hback k hk)
      · refine ⟨by have := hf.size; rw [hdst]; simpa [Act.put] using this, fun t u ht => ?_⟩
        obtain ⟨h1, h2⟩ := hf.get t u ht
        have hne : oi.dst ≠ some t := fun h => by
          rw [hdst] at h
          cases h
          rw [hdste] at hEn
          rw [hEn] at ht
          cases ht
        exact ⟨h1, by rw [put_frame hne]; exact h2⟩
      · intro e' he' hl'
        by_cases hee : e'.j = i
        · have hsame : e' = e := by
            have hnd2 : (Gs.map (·.j)).Nodup := by rw [hjs]; exact hnd
            obtain ⟨n1, hn1, g1⟩ := List.mem_iff_getElem.1 he'
            obtain ⟨n2, hn2, g2⟩ := List.mem_iff_getElem.1 he
            have : n1 = n2 := (List.getElem_inj (h₀ := by simpa using hn1) (h₁ := by simpa using hn2) hnd2).1 (by simp [g1, g2, hee, hej])
            subst this
            exact g1.symm.trans g2
          subst hsame
          refine ⟨hdN, x, hx, ?_⟩
          rw [hdst]
          exact getD_set_eq _ _ _ _ (by rw [hf.size]; exact hdN)
        · rw [getD_set_ne false (fun h => hee h.symm)] at hl'
          obtain ⟨h1, y, hy, hv⟩ := hg e' he' hl'
          refine ⟨h1, y, (hGs e' he').2 _ _ _ hle hy, ?_⟩
          have hne : oi.dst ≠ some e'.dst := fun h => by
            rw [hdst] at h
            have h := Option.some.inj h
            obtain ⟨⟨o3, ho3, hd3⟩, _⟩ := hGs e' he'
            have h3 : dstOf ops e'.j = e'.dst := by unfold dstOf; rw [ho3]; simp [hd3]
            have hj' : e'.j ∈ js := by rw [← hjs]; exact List.mem_map_of_mem he'
            obtain ⟨n1, hn1, g1⟩ := List.mem_iff_getElem.1 hj'
            obtain ⟨n2, hn2, g2⟩ := List.mem_iff_getElem.1 hij
            have : n1 = n2 := (List.getElem_inj (h₀ := by simpa using hn1) (h₁ := by simpa using hn2) hdn).1 (by
              simp only [List.getElem_map, g1, g2]
              rw [h3, hdste]
              exact h.symm)
            subst this
            exact hee (g1.symm.trans g2)
          rw [put_frame hne]
          exact hv
    · exact hk.elim

theorem heldT_any (hF : CallsOk P F.ok) {ops : Array Oper} {G : Act → World → Prop} (hsel : Region.noSelect ops = true) (hd : dstOk N ops.toList) {K : Env → World → Prop} {a0 : Act}
    (hG : ∀ E' a' w', K E' w' → Fits N E' a' → frame ops.toList a0 a' → G a' w') :
    ∀ (x : Od) (pre : List Nat) (J : List Nat) (S : World → Prop) (listed : Array Bool) (E : Env) (w : World) (a : Act) (fuel : Nat), x.depth ≤ fuel → S w → Closed ops listed →
    heldT P F ops x pre J S listed E w K → Fits N E a → frame ops.toList a0 a →
    (pre = [] → wpAnyK P ops (HQ P F N ops a0 G) J S fuel listed a w) ∧
    (pre ≠ [] → ∀ f, fuel = f + 1 → Region.ready .any ops listed ≠ [] ∧ ∀ i ∈ Region.ready .any ops listed, i ∉ pre →
      if J.contains i = true then wpOp P ops (HQ P F N ops a0 G) i (fun a' w' => wpAny P .any ops (HQ P F N ops a0 G) f (listed.setIfInBounds i true) a' w') a w
      else wpOp P ops (HQ P F N ops a0 G) i (fun a' w' => S w' ∧ wpAnyK P ops (HQ P F N ops a0 G) J S f (listed.setIfInBounds i true) a' w') a w)
  | .done, pre, J, S, listed, E, w, a, fuel, _, hS, hcl, h, hf, hfr => by
    unfold heldT at h
    split at h
    · rename_i he
      simp only [Bool.and_eq_true, List.isEmpty_iff] at he
      refine ⟨fun _ => ?_, fun hp => absurd he.1 hp⟩
      cases fuel with
      | zero => exact ⟨he.2, .inl ⟨rfl, hG _ _ _ h hf hfr⟩⟩
      | succ f => exact ⟨fun _ => .inl ⟨rfl, hG _ _ _ h hf hfr⟩, by rw [he.2]; simp⟩
    · exact h.elim
  | .take i r, pre, J, S, listed, E, w, a, fuel, hdp, hS, hcl, h, hf, hfr => by
    unfold heldT at h
    obtain ⟨fuel, rfl⟩ : ∃ n, fuel = n + 1 := ⟨fuel - 1, by simp only [Od.depth] at hdp; omega⟩
    have hdp' : r.depth ≤ fuel := by simp only [Od.depth] at hdp; omega
    split at h
    · exact h.elim
    rename_i o ho
    have hmem : o ∈ ops.toList := by
      have := Array.mem_of_getElem? ho
      simpa using this
    have hdo := hd o hmem
    have hfr' : ∀ (v : Value), frame ops.toList a0 (a.put o.dst v) := fun v => hfr.put hmem
    split at h
    · exact h.elim
    rename_i hc
    simp only [Bool.and_eq_true, List.isEmpty_iff] at hc
    obtain ⟨⟨hp, hfree, hrd⟩, hJ⟩ := hc
    refine ⟨fun _ => ?_, fun hp' => absurd hp hp'⟩
    have hrd' : i ∈ Region.ready .any ops listed := by simpa using hrd
    have go : ∀ (E' : Env) (v : Value), CanTake P ops J S i o v a → Fits N E' a → heldT P F ops r [] J S (listed.setIfInBounds i true) (E'.put o.dst v) w K →
        wpAnyK P ops (HQ P F N ops a0 G) J S (fuel + 1) listed a w := fun E' v hy hf' hr =>
      wpAnyK_first ho (Region.noSelect_spec hsel) (fun c a w h => h.unput hmem) fuel listed a w (Region.free_spec ho hfree) hcl hrd' hy hS
        ((heldT_any hF hsel hd hG r [] J S _ _ w _ fuel hdp' hS (hcl.set hrd') hr (hf'.put hdo) (hfr' v)).1 rfl)
    rcases gdT_elim h hf with ⟨hw, E', hf', hy⟩ | ⟨hw, E', hf', hn⟩
    · split at hy
      · rename_i hall
        simp only [Bool.and_eq_true] at hall
        cases hl : isLoad o.op with
        | false =>
          obtain ⟨v, h1, h2⟩ := opQ_every hall.2 hl hy
          exact go E' v (.inl (.inl ⟨hw, fun w2 => by rw [hasAll_exec hf' hall.1]; exact h1 w2⟩)) hf' h2
        | true =>
          obtain ⟨v, h1, h2⟩ := opQ_elim hall.2 hy
          refine go E' v (.inr ⟨.inl ⟨hw, fun w2 hw2 => by rw [hasAll_exec hf' hall.1]; exact h1 w2 hw2⟩, fun j hj => ?_⟩) hf' h2
          rw [hl] at hJ
          simp only [Bool.not_true, Bool.false_or, List.all_eq_true] at hJ
          exact hJ j hj
      · exact hy.elim
    · exact go E' undef (.inl (.inr ⟨hw, rfl⟩)) hf' hn
  | .eff i fl r, pre, J, S, listed, E, w, a, fuel, hdp, hS, hcl, h, hf, hfr => by
    unfold heldT at h
    obtain ⟨fuel, rfl⟩ : ∃ n, fuel = n + 1 := ⟨fuel - 1, by simp only [Od.depth] at hdp; omega⟩
    have hdp' : r.depth ≤ fuel := by simp only [Od.depth] at hdp; omega
    split at h
    · exact h.elim
    rename_i o ho
    have hmem : o ∈ ops.toList := by
      have := Array.mem_of_getElem? ho
      simpa using this
    have hdo := hd o hmem
    have hfr' : ∀ (v : Value), frame ops.toList a0 (a.put o.dst v) := fun v => hfr.put hmem
    split at h
    · rename_i hrd
      have hpk : ∀ v w', F.pk v w' → HQ P F N ops a0 G (.panic (onePanic v)) a w' := fun v w' hv => .inr ⟨v, rfl, hv, hf.some, hfr⟩
      have hrd : Region.ready .any ops listed = pre ++ [i] := by simpa using hrd
      have hin : i ∈ Region.ready .any ops listed := by rw [hrd]; simp
      have hbr := effT_op (Q := HQ P F N ops a0 G) (fuel := fuel) (listed := listed) hF ho hS hf hdo hpk h fun J S E' v w' hk hS' hf' =>
        (heldT_any hF hsel hd hG r [] J S _ E' w' _ fuel hdp' hS' (hcl.set hin) hk hf' (hfr' v)).1 rfl
      have hne : Region.ready .any ops listed ≠ [] := fun h0 => by rw [h0] at hin; cases hin
      refine ⟨fun hp => ⟨fun h0 => absurd h0 hne, fun j hj => ?_⟩, fun hp f hff => ⟨hne, fun j hj hjp => ?_⟩⟩
      · rw [hrd, hp] at hj
        have : j = i := by simpa using hj
        subst this
        exact hbr
      · cases hff
        rw [hrd] at hj
        have : j = i := by
          rcases List.mem_append.1 hj with h | h
          · exact absurd h hjp
          · simpa using h
        subst this
        exact hbr
    · exact h.elim
  | .effs i fl r more, pre, J, S, listed, E, w, a, fuel, hdp, hS, hcl, h, hf, hfr => by
    unfold heldT at h
    obtain ⟨fuel, rfl⟩ : ∃ n, fuel = n + 1 := ⟨fuel - 1, by simp only [Od.depth] at hdp; omega⟩
    have hdp' : r.depth ≤ fuel := by simp only [Od.depth] at hdp; omega
    split at h
    · exact h.elim
    rename_i o ho
    have hmem : o ∈ ops.toList := by
      have := Array.mem_of_getElem? ho
      simpa using this
    have hdo := hd o hmem
    have hfr' : ∀ (v : Value), frame ops.toList a0 (a.put o.dst v) := fun v => hfr.put hmem
    obtain ⟨h, hm⟩ := h
    have hpk : ∀ v w', F.pk v w' → HQ P F N ops a0 G (.panic (onePanic v)) a w' := fun v w' hv => .inr ⟨v, rfl, hv, hf.some, hfr⟩
    have hbr := fun hin : i ∈ Region.ready .any ops listed => effT_op (Q := HQ P F N ops a0 G) (fuel := fuel) (listed := listed) hF ho hS hf hdo hpk h fun J S E' v w' hk hS' hf' =>
        (heldT_any hF hsel hd hG r [] J S _ E' w' _ fuel hdp' hS' (hcl.set hin) hk hf' (hfr' v)).1 rfl
    have hmo := (heldT_any hF hsel hd hG more (pre ++ [i]) J S listed E w a (fuel + 1) (by simp only [Od.depth] at hdp; omega) hS hcl hm hf hfr).2 (by simp) fuel rfl
    refine ⟨fun hp => ⟨fun h0 => absurd h0 hmo.1, fun j hj => ?_⟩, fun _ f hff => ⟨hmo.1, fun j hj hjp => ?_⟩⟩
    · by_cases hji : j = i
      · subst hji; exact hbr hj
      · exact hmo.2 j hj (by simp [hp, hji])
    · cases hff
      by_cases hji : j = i
      · subst hji; exact hbr hj
      · exact hmo.2 j hj (by simp [hjp, hji])
  | .mono js r, pre, J, S, listed, E, w, a, fuel, hdp, hS, hcl, h, hf, hfr => by
    unfold heldT at h
    split at h
    case h_2 => exact h.elim
    rename_i hc
    simp only [Bool.and_eq_true, List.isEmpty_iff] at hc
    obtain ⟨⟨hp, hJ⟩, hok⟩ := hc
    refine ⟨fun _ => ?_, fun hp' => absurd hp hp'⟩
    obtain ⟨le, B, hB, h⟩ := h
    obtain ⟨Gs, hGs, hjs, hI, hend⟩ := monoG_elim js [] h (fun e he => by cases he)
    simp only [List.map_nil, List.nil_append] at hjs
    have hop := (monoOk_spec hok).2.2.1
    have hnl : ∀ j ∈ js, listed.getD j false = false := fun j hj => by
      obtain ⟨o, _, _, h, _⟩ := hop j hj
      cases hx : listed.getD j false with
      | false => rfl
      | true =>
        have : j < listed.size := by
          rcases Nat.lt_or_ge j listed.size with h' | h'
          · exact h'
          · simp [Array.getElem?_eq_none h'] at h
        simp [Array.getD, this] at h hx
        rw [h] at hx; cases hx
    have hlen : (js.filter fun j => !listed.getD j false).length = js.length := by
      rw [List.filter_eq_self.2 fun j hj => by rw [hnl j hj]; rfl]
    refine mono_any hF (n := r.depth) hd (fun j hj => by simpa using List.all_eq_true.1 hJ j hj) hok hGs hjs hI (fun a' w' fuel' hn hS' hB' hcl' hfr' key => ?_) js.length listed a w fuel hlen (by simpa [Od.depth] using hdp) rfl (fun k hk => .inl hk) (fun k hk => hk) hcl hS hB hf hfr
      fun e he hl => by
        have : e.j ∈ js := by rw [← hjs]; exact List.mem_map_of_mem he
        rw [hnl e.j this] at hl
        cases hl
    obtain ⟨E', hf', hk⟩ := key _ (hend w' hS' hB')
    exact (heldT_any hF hsel hd hG r [] J S _ E' w' a' fuel' hn hS' hcl' hk hf' hfr').1 rfl

theorem regT_wp (hF : CallsOk P F.ok) (hm : P.follows .mixedOrders = true) {m : RMode} {id : Nat} {ops : Array Oper} {d : Bool} {E : Env} {w : World} {K : Env → World → Prop} {a : Act}
    (h : regT P F m ops d E w K) (hf : Fits N E a) (hd : dstOk N ops.toList) :
    (Code.region id ops d).wp P (HQ P F N ops a fun a' w' => ∃ E', K E' w' ∧ Fits N E' a' ∧ frame ops.toList a a') a w := by
  unfold regT at h
  split at h
  · exact wp_region_list (opsT_list hF _ _ _ _ _ h hf hd (fun E' a' w' h1 h2 h3 => .inl ⟨rfl, E', h1, h2, h3⟩) fun v a' w' h1 h2 h3 => .inr ⟨v, rfl, h1, h2, h3⟩)
  · split at h
    · rename_i hB
      exact wp_region_still hm hB (opsT_still _ _ w.drew _ _ h hf hd fun E' a' h1 h2 h3 => .inl ⟨rfl, E', h1, h2, h3⟩)
    · exact h.elim
  · rename_i n
    split at h
    · rename_i hB
      obtain ⟨l⟩ := ops
      have s1 : ∀ o ∈ l.take n, o ∈ l := fun o ho => List.mem_of_mem_take ho
      have s2 : ∀ o ∈ l.drop n, o ∈ l := fun o ho => List.mem_of_mem_drop ho
      refine wp_region_still_tail (l := l) n hm hB (opsT_still _ _ w.drew _ _ h hf (fun o ho => hd o (s1 o ho)) fun E' a' h1 h2 h3 => ?_)
      exact opsT_list hF _ _ _ _ _ h1 h2 (fun o ho => hd o (s2 o ho)) (fun E'' a'' w'' g1 g2 g3 => .inl ⟨rfl, E'', g1, g2, (h3.sub s1).trans (g3.sub s2)⟩) fun v a'' w'' g1 g2 g3 => .inr ⟨v, rfl, g1, g2, (h3.sub s1).trans (g3.sub s2)⟩
    · exact h.elim
  · rename_i J o
    split at h
    · rename_i hB
      simp only [Bool.and_eq_true] at hB
      have key : ∀ S : World → Prop, S w.drew → heldT P F ops o [] J S (Array.replicate ops.size false) E w.drew K →
          (Code.region id ops true).wp P (HQ P F N ops a fun a' w' => ∃ E', K E' w' ∧ Fits N E' a' ∧ frame ops.toList a a') a w := fun S hS h =>
        wp_region_any hm (wpAny_of_K _ _ _ _ ((heldT_any hF hB.1 hd (G := fun a' w' => ∃ E', K E' w' ∧ Fits N E' a' ∧ frame ops.toList a a') (fun E' a' w' h1 h2 h3 => ⟨E', h1, h2, h3⟩) o [] J S _ E w.drew a ops.size
          (Nat.le_of_ble_eq_true hB.2) hS (Closed.start _ _) h hf (frame.refl _ _)).1 rfl))
      unfold phT at h
      split at h
      · obtain ⟨S, hS, h⟩ := h
        exact key S hS h
      · exact key _ trivial h
    · exact h.elim
  · exact h.elim

/-! ### Code -/

def slotsOk (N : Nat) : Code → Bool
  | .region _ ops _ => ops.toList.all fun o => match o.dst with
    | some d => Nat.blt d N
    | none => true
  | .seq a b => slotsOk N a && slotsOk N b
  | .cond _ a b => slotsOk N a && slotsOk N b
  | .block _ a => slotsOk N a
  | .loop a => slotsOk N a
  | _ => true
theorem slotsOk_dst {ops : Array Oper} {id : Nat} {d : Bool} (h : slotsOk N (.region id ops d) = true) : dstOk N ops.toList := fun o ho t ht => by
  simp only [slotsOk, List.all_eq_true] at h
  have := h o ho
  rw [ht] at this
  have h2 : t + 1 ≤ N := by simpa [Nat.blt] using this
  exact h2
theorem wr_region {ops : Array Oper} {id : Nat} {d : Bool} {t : Nat} (h : wr t (.region id ops d) = false) : ∀ o ∈ ops.toList, o.dst ≠ some t := fun o ho e => by
  simp only [wr, List.any_eq_false] at h
  have := h o ho
  rw [e] at this
  simp at this

def Held (N : Nat) (E : Env) (a : Act) : Prop := ∀ p ∈ E, p.1 < N ∧ a.tmps.getD p.1 undef = p.2
theorem get?_mem {E : Env} {t : Nat} {v : Value} (h : E.get? t = some v) : (t, v) ∈ E := by
  induction E with
  | nil => cases h
  | cons p E ih =>
    obtain ⟨u, x⟩ := p
    simp only [Env.get?] at h
    split at h
    · rename_i hb
      cases h
      rw [beq_eq hb]; exact List.mem_cons_self
    · exact List.mem_cons_of_mem _ (ih h)
theorem Held.fits {E : Env} {a : Act} (h : Held N E a) (hs : a.tmps.size = N) : Fits N E a := ⟨hs, fun t v hv => h (t, v) (get?_mem hv)⟩
theorem zip_held {E : Env} {a : Act} (hf : Fits N E a) : ∀ (ts : List Nat) (vs : List Value), Env.vals E ts = some vs → Held N (Env.zip ts vs) a
  | [], vs, _, p, hp => by cases vs <;> cases hp
  | t :: ts, vs, h, p, hp => by
    simp only [Env.vals] at h
    split at h
    · rename_i v vs' hv hvs
      cases h
      rcases List.mem_cons.1 hp with rfl | hp
      · exact hf.get _ _ hv
      · exact zip_held hf ts vs' hvs p hp
    · cases h
theorem keep_held {E : Env} {a a' : Act} (hf : Fits N E a) : ∀ (ks : List Nat), (∀ t ∈ ks, a'.tmps.getD t undef = a.tmps.getD t undef) → Held N (Env.keep E ks) a'
  | [], _, p, hp => by cases hp
  | t :: ks, h, p, hp => by
    have ih := keep_held hf ks fun u hu => h u (List.mem_cons_of_mem _ hu)
    simp only [Env.keep] at hp
    split at hp
    · rename_i v hv
      rcases List.mem_cons.1 hp with rfl | hp
      · obtain ⟨h1, h2⟩ := hf.get _ _ hv
        exact ⟨h1, by rw [h t List.mem_cons_self]; exact h2⟩
      · exact ih p hp
    · exact ih p hp
theorem keepOk_wr {keep : List Nat} {c : Code} (h : keepOk keep c = true) : ∀ t ∈ keep, wr t c = false := fun t ht => by
  simpa using List.all_eq_true.1 h t ht
theorem stGet_elim {live : List (Nat × Ty)} {E : Env} {K : Sg (live.map (·.2)) → Prop} (h : stGet live E K) :
    ∃ s, K s ∧ ∀ a, Fits N E a → Held N (stPut live s) a := by
  unfold stGet at h
  split at h
  · rename_i vs hvs
    split at h
    · rename_i s hs
      refine ⟨s, h, fun a hf => ?_⟩
      unfold stPut
      rw [Sg.get?_vals _ _ _ hs]
      exact zip_held hf _ _ hvs
    · exact h.elim
  · exact h.elim
theorem append_fits {A B : Env} {a : Act} (hA : Held N A a) (hB : Held N B a) (hs : a.tmps.size = N) : Fits N (A ++ B) a :=
  Held.fits (fun p hp => (List.mem_append.1 hp).elim (hA p) (hB p)) hs

/-- The slots that code c does not write are as before. -/
def Same (c : Code) (a0 a' : Act) : Prop := (∀ t, wr t c = false → a'.tmps.getD t undef = a0.tmps.getD t undef) ∧ a'.defers = a0.defers
theorem Same.refl (c : Code) (a : Act) : Same c a a := ⟨fun _ _ => rfl, rfl⟩
theorem Same.sub {c d : Code} {a b : Act} (h : Same c a b) (hs : ∀ t, wr t d = false → wr t c = false) : Same d a b := ⟨fun t ht => h.1 t (hs t ht), h.2⟩
theorem Same.trans {c : Code} {a b e : Act} (h : Same c a b) (k : Same c b e) : Same c a e := ⟨fun t ht => by rw [k.1 t ht]; exact h.1 t ht, by rw [k.2]; exact h.2⟩
def Post (N : Nat) (F : Fx) (c : Code) (K : Exit → Env → World → Prop) (a0 : Act) (e : Exit) (a' : Act) (w' : World) : Prop :=
  (∃ E', K e E' w' ∧ Fits N E' a' ∧ Same c a0 a') ∨ ∃ v, e = .panic (onePanic v) ∧ F.pk v w' ∧ Fits N [] a' ∧ Same c a0 a'

theorem rho_bool {E : Env} {a : Act} (hf : Fits N E a) {x : Operand} {b : Bool} (h : E.rho x = .bool b) : a.eval x = .bool b := by
  rw [← h]
  refine hf.rho ?_
  cases x with
  | tmp t =>
    simp only [Env.has]
    cases hg : E.get? t with
    | none => simp [Env.rho, hg, undef] at h
    | some v => rfl
  | _ => rfl

theorem codeT_wp (hF : CallsOk P F.ok) (hm : P.follows .mixedOrders = true) : ∀ (c : Code) (pl : Plan) (E : Env) (w : World) (K : Exit → Env → World → Prop) (a : Act),
    codeT P F pl c E w K → Fits N E a → slotsOk N c = true → c.wp P (Post N F c K a) a w := by
  intro c
  induction c with
  | region id ops d =>
    intro pl E w K a h hf hs
    cases pl <;> try exact (show False from h).elim
    rename_i m
    have hfs : ∀ {a' : Act}, frame ops.toList a a' → Same (.region id ops d) a a' := fun h => ⟨fun t ht => h.1 t (wr_region ht), h.2⟩
    refine wp_mono (regT_wp hF hm h hf (slotsOk_dst hs)) fun e a' w' hq => ?_
    rcases hq with ⟨he, E', h1, h2, h3⟩ | ⟨v, he, h1, h2, h3⟩
    · exact .inl ⟨E', by subst he; exact h1, h2, hfs h3⟩
    · exact .inr ⟨v, he, h1, h2, hfs h3⟩
  | skip =>
    intro pl E w K a h hf hs
    cases pl <;> try exact (show False from h).elim
    exact wp_skip (.inl ⟨E, h, hf, Same.refl _ _⟩)
  | label l =>
    intro pl E w K a h hf hs
    cases pl <;> try exact (show False from h).elim
    exact wp_label (.inl ⟨E, h, hf, Same.refl _ _⟩)
  | exit id =>
    intro pl E w K a h hf hs
    cases pl <;> try exact (show False from h).elim
    exact wp_exit (.inl ⟨E, h, hf, Same.refl _ _⟩)
  | ret =>
    intro pl E w K a h hf hs
    cases pl <;> try exact (show False from h).elim
    exact wp_ret (.inl ⟨E, h, hf, Same.refl _ _⟩)
  | seq c d ihc ihd =>
    intro pl E w K a h hf hs
    simp only [slotsOk, Bool.and_eq_true] at hs
    have wrs : ∀ t, wr t (.seq c d) = false → wr t c = false ∧ wr t d = false := fun t ht => by simpa [wr] using ht
    have sc : ∀ {a b : Act}, Same c a b → Same (.seq c d) a b := fun h => h.sub fun t ht => (wrs t ht).1
    have sd : ∀ {a b : Act}, Same d a b → Same (.seq c d) a b := fun h => h.sub fun t ht => (wrs t ht).2
    have post : ∀ {a' : Act} {e : Exit} {a'' : Act} {w'' : World}, Same c a a' → Post N F d K a' e a'' w'' → Post N F (.seq c d) K a e a'' w'' := fun h3 hq => by
      rcases hq with ⟨E'', g1, g2, g3⟩ | ⟨v, g0, g1, g2, g3⟩
      · exact .inl ⟨E'', g1, g2, (sc h3).trans (sd g3)⟩
      · exact .inr ⟨v, g0, g1, g2, (sc h3).trans (sd g3)⟩
    cases pl <;> try exact (show False from h).elim
    · rename_i p q
      refine wp_seq (wp_mono (ihc p E w _ a h hf hs.1) fun e a' w' hq => ?_)
      rcases hq with ⟨E', h1, h2, h3⟩ | ⟨v, rfl, h1, h2, h3⟩
      · cases e <;> try exact .inl ⟨E', h1, h2, sc h3⟩
        exact wp_mono (ihd q E' w' K a' h1 h2 hs.2) fun e a'' w'' hq => post h3 hq
      · exact .inr ⟨v, rfl, h1, h2, sc h3⟩
    · rename_i live keep p q
      replace h : match keepOk keep c with
        | true => Join (fun s w => codeT P F q d (stPut live s ++ Env.keep E keep) w K) fun J => codeT P F p c E w fun e E w => match e with
          | .normal => stGet live E fun s => J s w
          | e => K e E w
        | false => False := h
      split at h
      · rename_i hk
        obtain ⟨J, hb, hfr⟩ := h
        refine wp_seq (wp_mono (ihc p E w _ a hfr hf hs.1) fun e a' w' hq => ?_)
        rcases hq with ⟨E', h1, h2, h3⟩ | ⟨v, rfl, h1, h2, h3⟩
        · cases e <;> try exact .inl ⟨E', h1, h2, sc h3⟩
          obtain ⟨s, hJ, hst⟩ := stGet_elim (N := N) h1
          have hfit : Fits N (stPut live s ++ Env.keep E keep) a' := append_fits (hst a' h2) (keep_held hf keep fun t ht => h3.1 t (keepOk_wr hk t ht)) h2.size
          exact wp_mono (ihd q _ w' K a' (hb s w' hJ) hfit hs.2) fun e a'' w'' hq => post h3 hq
        · exact .inr ⟨v, rfl, h1, h2, sc h3⟩
      · exact h.elim
  | cond x c d ihc ihd =>
    intro pl E w K a h hf hs
    simp only [slotsOk, Bool.and_eq_true] at hs
    have wrs : ∀ t, wr t (.cond x c d) = false → wr t c = false ∧ wr t d = false := fun t ht => by simpa [wr] using ht
    have sc : ∀ {a b : Act}, Same c a b → Same (.cond x c d) a b := fun h => h.sub fun t ht => (wrs t ht).1
    have sd : ∀ {a b : Act}, Same d a b → Same (.cond x c d) a b := fun h => h.sub fun t ht => (wrs t ht).2
    cases pl <;> try exact (show False from h).elim
    rename_i p q
    replace h : match E.rho x with
      | .bool b => Br b (codeT P F p c E w K) (codeT P F q d E w K)
      | _ => False := h
    split at h
    · rename_i b hb
      rcases Br_elim h with ⟨rfl, h⟩ | ⟨rfl, h⟩
      · refine wp_cond_true (rho_bool hf hb) (wp_mono (ihc p E w K a h hf hs.1) fun e a' w' hq => ?_)
        rcases hq with ⟨E', h1, h2, h3⟩ | ⟨v, h0, h1, h2, h3⟩
        · exact .inl ⟨E', h1, h2, sc h3⟩
        · exact .inr ⟨v, h0, h1, h2, sc h3⟩
      · refine wp_cond_false (rho_bool hf hb) (wp_mono (ihd q E w K a h hf hs.2) fun e a' w' hq => ?_)
        rcases hq with ⟨E', h1, h2, h3⟩ | ⟨v, h0, h1, h2, h3⟩
        · exact .inl ⟨E', h1, h2, sd h3⟩
        · exact .inr ⟨v, h0, h1, h2, sd h3⟩
    · exact h.elim
  | block id c ih =>
    intro pl E w K a h hf hs
    have sc : ∀ {a b : Act}, Same c a b → Same (.block id c) a b := fun h => h.sub fun t ht => by simpa [wr] using ht
    cases pl <;> try exact (show False from h).elim
    rename_i p
    refine wp_block (wp_mono (ih p E w _ a h hf hs) fun e a' w' hq => ?_)
    rcases hq with ⟨E', h1, h2, h3⟩ | ⟨v, rfl, h1, h2, h3⟩
    · cases e with
      | exit i =>
        replace h1 : match Nat.beq i id with
          | true => K .normal E' w'
          | false => K (.exit i) E' w' := h1
        show if i = id then _ else _
        cases hb : Nat.beq i id with
        | true => rw [hb] at h1; rw [if_pos (beq_eq hb)]; exact .inl ⟨E', h1, h2, sc h3⟩
        | false => rw [hb] at h1; rw [if_neg (fun e => by subst e; simp at hb)]; exact .inl ⟨E', h1, h2, sc h3⟩
      | _ => exact .inl ⟨E', h1, h2, sc h3⟩
    · exact .inr ⟨v, rfl, h1, h2, sc h3⟩
  | loop c ih =>
    intro pl E w K a h hf hs
    have sc : ∀ {a b : Act}, Same c a b → Same (.loop c) a b := fun h => h.sub fun t ht => by simpa [wr] using ht
    cases pl <;> try exact (show False from h).elim
    rename_i live keep p
    replace h : match keepOk keep c with
      | true => stGet live E fun s0 => Lp (fun R s w => codeT P F p c (stPut live s ++ Env.keep E keep) w fun e E w => match e with
        | .normal => stGet live E fun s => R s w
        | e => K e E w) s0 w
      | false => False := h
    split at h
    · rename_i hk
      obtain ⟨s0, ⟨I, n0, h0, hround⟩, hst0⟩ := stGet_elim (N := N) h
      refine wp_loop_ghost (fun n a' w' => ∃ s, I n s w' ∧ Fits N (stPut live s ++ Env.keep E keep) a' ∧ Same c a a') n0
        ⟨s0, h0, append_fits (hst0 a hf) (keep_held hf keep fun _ _ => rfl) hf.size, Same.refl _ _⟩ ?_
      rintro n a' w' ⟨s, hI, hfit, hfr⟩
      refine wp_mono (ih p _ w' _ a' (hround n s w' hI) hfit hs) fun e a'' w'' hq => ?_
      rcases hq with ⟨E'', g1, g2, g3⟩ | ⟨v, rfl, g1, g2, g3⟩
      · have hfr' := hfr.trans g3
        cases e <;> try exact .inl ⟨E'', g1, g2, sc hfr'⟩
        obtain ⟨s', ⟨n', hlt, hI'⟩, hst⟩ := stGet_elim (N := N) g1
        exact ⟨n', hlt, s', hI', append_fits (hst a'' g2) (keep_held hf keep fun t ht => hfr'.1 t (keepOk_wr hk t ht)) g2.size, hfr'⟩
      · exact .inr ⟨v, rfl, g1, g2, sc (hfr.trans g3)⟩
    · exact h.elim
  | _ =>
    intro pl E w K a h hf hs
    cases pl <;> exact (show False from h).elim

/-! ### A function -/

theorem mapM_cells {f : ResultVar → Sem Value} {w : World} : ∀ (l : List ResultVar) (vs : List Value), (∀ (i : Nat) (r : ResultVar) (v : Value), l[i]? = some r → vs[i]? = some v → (f r).run P w = .ok v w) → l.length = vs.length →
    (l.mapM f).run P w = .ok vs w
  | [], [], _, _ => rfl
  | [], _ :: _, _, h => by cases h
  | _ :: _, [], _, h => by cases h
  | r :: l, v :: vs, h, hl => by
    have h0 := h 0 r v rfl rfl
    have ih := mapM_cells l vs (fun i r v h1 h2 => h (i + 1) r v (by simpa using h1) (by simpa using h2)) (by simpa using hl)
    simp only [List.mapM_cons, Sem.run_bind, h0, Result.andThen_ok, ih, Sem.run_pure]

def resF (a : Act) (r : ResultVar) : Sem Value := match r with
  | .tmp t => pure (a.tmps.getD t undef)
  | .cell t ty => do loadVar ty (← asAddr (a.tmps.getD t undef))
theorem resT_run {E : Env} {w : World} {a : Act} (hf : Fits N E a) : ∀ (l : List ResultVar) (K : List Value → Prop), resT P l E w K →
    ∃ vs : List Value, l.length = vs.length ∧ (∀ (i : Nat) (r : ResultVar) (v : Value), l[i]? = some r → vs[i]? = some v → (resF a r).run P w = .ok v w) ∧ K vs
  | [], K, h => ⟨[], rfl, by simp, h⟩
  | .tmp t :: l, K, h => by
    simp only [resT] at h
    split at h
    · rename_i v hv
      obtain ⟨vs, h1, h2, h3⟩ := resT_run hf l _ h
      refine ⟨v :: vs, by simp [h1], fun i r u hi hu => ?_, h3⟩
      cases i with
      | zero =>
        simp only [List.getElem?_cons_zero, Option.some.injEq] at hi hu
        subst hi hu
        simp only [resF, Sem.run_pure, (hf.get t v hv).2]
      | succ i => exact h2 i r u (by simpa using hi) (by simpa using hu)
    · exact h.elim
  | .cell t ty :: l, K, h => by
    simp only [resT] at h
    split at h
    · rename_i x hx
      obtain ⟨v, g1, g2⟩ := ldV_run h
      obtain ⟨vs, h1, h2, h3⟩ := resT_run hf l _ g2
      refine ⟨v :: vs, by simp [h1], fun i r u hi hu => ?_, h3⟩
      cases i with
      | zero =>
        simp only [List.getElem?_cons_zero, Option.some.injEq] at hi hu
        subst hi hu
        have hxa : ∃ b, x = .pointer (some b) := by
          unfold ldV at h
          split at h
          · exact ⟨_, rfl⟩
          · exact h.elim
        obtain ⟨b, rfl⟩ := hxa
        simp only [Instr.loadAt, Instr.sureAddr, Sem.run_bind, Sem.run_pure, Result.andThen_ok] at g1
        simp only [resF, (hf.get t _ hx).2, asAddr, Sem.run_bind, Sem.run_pure, Result.andThen_ok, g1]
      | succ i => exact h2 i r u (by simpa using hi) (by simpa using hu)
    · exact h.elim

theorem env0_held {a : Act} : ∀ (l : List Value) (i : Nat), (∀ j v, l[j]? = some v → i + j < N ∧ a.tmps.getD (i + j) undef = v) → Held N (env0 i l) a
  | [], _, _, p, hp => by cases hp
  | v :: l, i, h, p, hp => by
    rcases List.mem_cons.1 hp with rfl | hp
    · exact h 0 v rfl
    · exact env0_held l (i + 1) (fun j u hj => by have := h (j + 1) u (by simpa using hj); rw [show i + 1 + j = i + (j + 1) by omega]; exact this) p hp

theorem retV_eq (vs : List Value) : (if h : vs.toArray.size = 1 then vs.toArray[0] else Value.tuple vs.toArray) = callV.retV vs := by
  match vs with
  | [] => rfl
  | [v] => rfl
  | _ :: _ :: _ => simp [callV.retV]

theorem fits0 {n : Nat} {args : List Value} (hle : args.length ≤ n) : Fits n (env0 0 args) { tmps := args.toArray ++ Array.replicate (n - args.toArray.size) undef, defers := [] } := by
  refine Held.fits (env0_held args 0 fun j v hj => ?_) (by simp; omega)
  have hlt : j < args.length := (List.getElem?_eq_some_iff.1 hj).1
  refine ⟨by omega, ?_⟩
  have hv : args[j] = v := (List.getElem?_eq_some_iff.1 hj).2
  simp [Array.getD, hlt, hv]
  intro h'
  omega
theorem fin_run {fn : Func} {E' : Env} {a' : Act} {w' : World} {tys : List Ty} {R : Sg tys → World → Prop} (hfit : Fits N E' a') (h : finT P fn tys R E' w') :
    ∃ v, (results fn a'.tmps).run P w' = .ok v w' ∧ ∃ s : Sg tys, Ending.returned v = .returned (callV.retV (Sg.vals tys s)) ∧ R s w' := by
  obtain ⟨vs, g1, g2, g3⟩ := resT_run hfit _ _ h
  split at g3
  · rename_i s hs
    refine ⟨callV.retV vs, ?_, s, by rw [Sg.get?_vals _ _ _ hs], g3⟩
    have e : results fn a'.tmps = (do
        let vs ← fn.results.mapM (resF a')
        pure (if h : vs.size = 1 then vs[0] else .tuple vs)) := rfl
    rw [e, Array.mapM_eq_mapM_toList]
    have := mapM_cells (P := P) (w := w') fn.results.toList vs g2 g1
    simp only [Sem.run_bind, Sem.run_map, this, Result.andThen_ok, Sem.run_pure, retV_eq]
  · exact g3.elim
/-- **The formula of a whole function implies what a call of it does.** -/
theorem fn_callsP {ok may : Nat → Bool} {pk : Value → World → Prop} (hF : CallsOk P ok) (hm : P.follows .mixedOrders = true) {f : FuncId} {fn : Func} {pl : Plan} {args : List Value} {w : World} {tys : List Ty} {R : Sg tys → World → Prop}
    (hf : P.funcs[f]? = some fn) (hN : (match fn.body with
      | some c => slotsOk fn.ntmps c
      | none => false) = true) (ha : Nat.ble args.length fn.ntmps = true)
    (h : fnT P ⟨ok, may, pk⟩ pl fn args w tys R) : Calls P f args.toArray w fun e w' => (∃ s : Sg tys, e = .returned (callV.retV (Sg.vals tys s)) ∧ R s w') ∨ ∃ v, e = .panicked (onePanic v) ∧ pk v w' := by
  unfold fnT at h
  split at h
  · exact h.elim
  · rename_i c hc
    rw [hc] at hN
    refine calls_of_wp hf hc ?_
    refine wp_mono (codeT_wp (F := ⟨ok, may, pk⟩) hF hm c pl _ w _ _ h (fits0 (Nat.le_of_ble_eq_true ha)) hN) fun e a' w' hq => ?_
    rcases hq with ⟨E', h1, h2, h3⟩ | ⟨v, rfl, h1, h2, h3⟩
    · have fin : finT P fn tys R E' w' → a'.defers = [] ∧ ∃ v, (results fn a'.tmps).run P w' = .ok v w' ∧ ((∃ s : Sg tys, Ending.returned v = .returned (callV.retV (Sg.vals tys s)) ∧ R s w') ∨ ∃ u, Ending.returned v = .panicked (onePanic u) ∧ pk u w') := fun h => by
        obtain ⟨v, g1, g2⟩ := fin_run h2 h
        exact ⟨h3.2, v, g1, .inl g2⟩
      cases e with
      | normal => exact fin h1
      | ret => exact fin h1
      | _ => exact h1.elim
    · exact ⟨h3.2, .inr ⟨v, rfl, h1⟩⟩
theorem fn_calls {ok may : Nat → Bool} (hF : CallsOk P ok) (hm : P.follows .mixedOrders = true) {f : FuncId} {fn : Func} {pl : Plan} {args : List Value} {w : World} {tys : List Ty} {R : Sg tys → World → Prop}
    (hf : P.funcs[f]? = some fn) (hN : (match fn.body with
      | some c => slotsOk fn.ntmps c
      | none => false) = true) (ha : Nat.ble args.length fn.ntmps = true)
    (h : fnT P ⟨ok, may, fun _ _ => False⟩ pl fn args w tys R) : Calls P f args.toArray w fun e w' => ∃ s : Sg tys, e = .returned (callV.retV (Sg.vals tys s)) ∧ R s w' :=
  (fn_callsP hF hm hf hN ha h).mono fun e w' he => he.elim id fun ⟨_, _, h⟩ => h.elim
end
end Sh
end Go.Proofs.YtjkoafjnmkchdaaGreatDoor

/- Small laws on memory, on numbers and on the formulas of 'Sh'. No condition. -/
namespace Go.Proofs.YtjkoafjnmkchdaaGreatDoor
namespace Sh
set_option linter.unusedVariables false

@[simp] theorem Br_true (A B : Prop) : Br true A B = A := rfl
@[simp] theorem Br_false (A B : Prop) : Br false A B = B := rfl
theorem Br_of {b : Bool} {A B : Prop} (h1 : b = true → A) (h2 : b = false → B) : Br b A B := by cases b; exact h2 rfl; exact h1 rfl
theorem Join.intro {σ : Type} {body : σ → World → Prop} {front : (σ → World → Prop) → Prop} (h : front body) : Join body front := ⟨body, fun _ _ h => h, h⟩
/-- A loop whose relation has a measure. -/
theorem Lp.mk {σ : Type} {B : (σ → World → Prop) → σ → World → Prop} {s0 : σ} {w0 : World} (I : σ → World → Prop) (μ : σ → World → Nat) (h0 : I s0 w0)
    (h : ∀ s w, I s w → B (fun s' w' => I s' w' ∧ μ s' w' < μ s w) s w) (hm : ∀ (X Y : σ → World → Prop) s w, (∀ s w, X s w → Y s w) → B X s w → B Y s w) : Lp B s0 w0 :=
  ⟨fun n s w => I s w ∧ μ s w = n, _, ⟨h0, rfl⟩, fun n s w ⟨hI, hn⟩ => hm _ _ s w (fun s' w' ⟨h1, h2⟩ => ⟨μ s' w', hn ▸ h2, h1, rfl⟩) (h s w hI)⟩

/-! ### Addresses and cells -/

@[simp] theorem add_lit (b o n : Nat) : (⟨b, o, none⟩ : Addr).add n = ⟨b, o + n, none⟩ := by
  unfold Addr.add
  split
  · rename_i h; subst h; rfl
  · rfl
/-- Block b of w is this row of cells. -/
def Blk (w : World) (b : Nat) (cs : Array Value) (t : TypeId) : Prop := w.heap[b]? = some (.cells cs t (0, 0))
theorem Blk.cell {w : World} {b : Nat} {cs : Array Value} {t : TypeId} (h : Blk w b cs t) (o : Nat) : w.cell? ⟨b, o, none⟩ = cs[o]? := by
  unfold Blk at h
  simp [World.cell?, h]
theorem Blk.frozen {w : World} {b : Nat} {cs : Array Value} {t : TypeId} (h : Blk w b cs t) (o : Nat) : w.frozen? ⟨b, o, none⟩ = false := by
  unfold Blk at h
  simp [World.frozen?, h]
theorem Blk.can {w : World} {b : Nat} {cs : Array Value} {t : TypeId} (h : Blk w b cs t) {o : Nat} (ho : o < cs.size) : CanSt w ⟨b, o, none⟩ :=
  ⟨⟨cs[o], by rw [h.cell, Array.getElem?_eq_getElem ho]⟩, h.frozen o⟩
theorem Blk.lt {w : World} {b : Nat} {cs : Array Value} {t : TypeId} (h : Blk w b cs t) : b < w.heap.size := (Array.getElem?_eq_some_iff.1 h).1
theorem Blk.set {w : World} {b : Nat} {cs : Array Value} {t : TypeId} (h : Blk w b cs t) (o : Nat) (v : Value) : Blk (w.setCell ⟨b, o, none⟩ v) b (cs.setIfInBounds o v) t := by
  unfold Blk at h ⊢
  simp [World.setCell, Array.getElem?_modify, h]
theorem Blk.drew {w : World} {b : Nat} {cs : Array Value} {t : TypeId} (h : Blk w b cs t) : Blk w.drew b cs t := h
theorem Blk.drewN {w : World} {b : Nat} {cs : Array Value} {t : TypeId} (h : Blk w b cs t) {n : Nat} : Blk (w.drewN n) b cs t := by unfold Blk at h ⊢; exact h
theorem Blk.alloc {w : World} {b : Nat} {cs : Array Value} {t : TypeId} (h : Blk w b cs t) (o : Obj) : Blk (w.alloc o) b cs t := by
  have := h.lt
  unfold Blk at h ⊢
  rw [Go.RowKit.Below.heap_alloc w o b this]; exact h
theorem Blk.new (w : World) (cs : Array Value) (t : TypeId) : Blk (w.alloc (.cells cs t)) w.heap.size cs t := by
  unfold Blk
  show (w.heap.push _)[w.heap.size]? = _
  simp
@[simp] theorem size_alloc' (w : World) (o : Obj) : (w.alloc o).heap.size = w.heap.size + 1 := by show (w.heap.push o).size = _; rw [Array.size_push]
@[simp] theorem size_set' (w : World) (a : Addr) (v : Value) : (w.setCell a v).heap.size = w.heap.size := by simp [World.setCell]
@[simp] theorem size_drew' (w : World) : w.drew.heap.size = w.heap.size := rfl
@[simp] theorem size_drewN' (w : World) (n : Nat) : (w.drewN n).heap.size = w.heap.size := rfl

/-! ### What may have changed -/

/-- w' is w with new blocks, and with the blocks of F changed. -/
structure Ext (F : Nat → Prop) (w w' : World) : Prop where
  os : w'.os = w.os
  tape : w'.tape = w.tape
  output : w'.output = w.output
  size : w.heap.size ≤ w'.heap.size
  block : ∀ k, k < w.heap.size → ¬ F k → w'.heap[k]? = w.heap[k]?
theorem Ext.refl (F : Nat → Prop) (w : World) : Ext F w w := ⟨rfl, rfl, rfl, Nat.le_refl _, fun _ _ _ => rfl⟩
theorem Ext.trans {F G H : Nat → Prop} {a b c : World} (h : Ext F a b) (k : Ext G b c) (hF : ∀ i, F i → H i) (hG : ∀ i, i < a.heap.size → G i → H i) : Ext H a c :=
  ⟨k.os.trans h.os, k.tape.trans h.tape, k.output.trans h.output, Nat.le_trans h.size k.size, fun i hi hn =>
    (k.block i (Nat.lt_of_lt_of_le hi h.size) fun g => hn (hG i hi g)).trans (h.block i hi fun f => hn (hF i f))⟩
theorem Ext.tr {F : Nat → Prop} {a b c : World} (h : Ext F a b) (k : Ext F b c) : Ext F a c := h.trans k (fun _ h => h) (fun _ _ h => h)
theorem Ext.mono {F G : Nat → Prop} {a b : World} (h : Ext F a b) (hF : ∀ i, i < a.heap.size → F i → G i) : Ext G a b :=
  ⟨h.os, h.tape, h.output, h.size, fun i hi hn => h.block i hi fun f => hn (hF i hi f)⟩
theorem Ext.drew {F : Nat → Prop} {a w : World} (h : Ext F a w) : Ext F a w.drew := ⟨h.os, h.tape, h.output, h.size, h.block⟩
theorem Ext.drewN {F : Nat → Prop} {a w : World} (h : Ext F a w) (n : Nat) : Ext F a (w.drewN n) := ⟨h.os, h.tape, h.output, h.size, h.block⟩
theorem Ext.alloc {F : Nat → Prop} {a w : World} (h : Ext F a w) (o : Obj) : Ext F a (w.alloc o) :=
  ⟨h.os, h.tape, h.output, by have := h.size; simp; omega, fun i hi hn => by
    rw [Go.RowKit.Below.heap_alloc w o i (by have := h.size; omega)]; exact h.block i hi hn⟩
theorem Ext.set {F : Nat → Prop} {a w : World} (h : Ext F a w) {b o : Nat} (hb : F b ∨ a.heap.size ≤ b) (v : Value) : Ext F a (w.setCell ⟨b, o, none⟩ v) :=
  ⟨h.os, h.tape, h.output, by simpa using h.size, fun i hi hn => by
    rw [Go.RowKit.Below.heap_setCell _ _ _ _ (fun e => by
      simp only at e
      subst e
      rcases hb with hb | hb
      · exact hn hb
      · omega)]
    exact h.block i hi hn⟩
theorem Ext.blk {F : Nat → Prop} {a w : World} (h : Ext F a w) {b : Nat} {cs : Array Value} {t : TypeId} (hb : Blk a b cs t) (hn : ¬ F b) : Blk w b cs t := by
  unfold Blk at hb ⊢
  rw [h.block b (Array.getElem?_eq_some_iff.1 hb).1 hn]; exact hb
theorem Ext.below {w w' : World} (h : Ext (fun _ => False) w w') : Go.RowKit.Below w.heap.size w w' :=
  ⟨h.os, h.tape, h.output, h.size, fun k hk => h.block k hk id⟩
theorem Ext.grown {F : Nat → Prop} {a w w' : World} {row : Option Nat} (h : Ext F a w) (g : w.grownBy w' row) (hr : ∀ k, row = some k → F k ∨ a.heap.size ≤ k) : Ext F a w' :=
  ⟨g.os.trans h.os, g.tape.trans h.tape, g.output.trans h.output, Nat.le_trans h.size g.size, fun i hi hn => by
    rw [g.block i (by have := h.size; omega) (fun e => by
      rcases hr i e.symm with h1 | h1
      · exact hn h1
      · omega)]
    exact h.block i hi hn⟩
theorem Ext.cell {F : Nat → Prop} {a w : World} (h : Ext F a w) {p : Addr} (hp : p.block < a.heap.size) (hn : ¬ F p.block) : w.cell? p = a.cell? p := World.cell?_of_block (w := a) (h.block p.block hp hn)

theorem cell_lt' {w : World} {a : Addr} {v : Value} (h : w.cell? a = some v) : a.block < w.heap.size := by
  unfold World.cell? at h
  rcases Nat.lt_or_ge a.block w.heap.size with h' | h'
  · exact h'
  · rw [Array.getElem?_eq_none h'] at h
    cases h
theorem Ext.cell_same {a w : World} (h : Ext (fun _ => False) a w) {p : Addr} {v : Value} (hc : a.cell? p = some v) : w.cell? p = some v := by
  rw [h.cell (cell_lt' hc) id]; exact hc

/-! ### The steps of a formula over known blocks -/

/-- Blocks that are known whole, no two of them one; 'w0': the world at the start; 'F': the old blocks that may be changed. -/
structure Hx (w0 : World) (F : Nat → Prop) (w : World) (L : List (Nat × Array Value × TypeId)) : Prop where
  blk : ∀ p ∈ L, Blk w p.1 p.2.1 p.2.2
  nodup : (L.map (·.1)).Nodup
  ext : Ext F w0 w
section
variable {w0 w : World} {F : Nat → Prop} {L : List (Nat × Array Value × TypeId)} {b o : Nat} {cs : Array Value} {t : TypeId}
theorem Hx.get (h : Hx w0 F w L) (i : Nat) (hi : L[i]? = some (b, cs, t)) : Blk w b cs t := h.blk (b, cs, t) (List.mem_of_getElem? hi)
theorem Nn.of {a : Addr} {K : Addr → Prop} (h : K a) : Nn (some a) K := ⟨a, rfl, h⟩
theorem Ld.mk {α : Type} {V : α → Value} {K : α → Prop} {x : α} {a : Addr} (h : w.cell? a = some (V x)) (k : K x) : Ld w a V K := ⟨x, h, k⟩
theorem Nw.of {o' : Obj} {K : World → Prop} (h : K (w.alloc o')) : Nw w o' K := h
theorem Lt.of {α : Type} {e : α} {K : α → Prop} (h : K e) : Lt e K := h
theorem Ld.of {α : Type} {V : α → Value} {K : α → Prop} {x : α} (h : Blk w b cs t) (hx : cs[o]? = some (V x)) (hk : K x) : Ld w ⟨b, o, none⟩ V K := ⟨x, by rw [h.cell]; exact hx, hk⟩
theorem Hx.ld {α : Type} {V : α → Value} {K : α → Prop} {x : α} (h : Hx w0 F w L) (i : Nat) (hi : L[i]? = some (b, cs, t)) (hx : cs[o]? = some (V x)) (hk : K x) : Ld w ⟨b, o, none⟩ V K :=
  Ld.of (h.get i hi) hx hk
theorem LdS.of {α : Type} {S : World → Prop} {V : α → Value} {K : α → Prop} {x : α} (h : ∀ w, S w → Blk w b cs t) (hx : cs[o]? = some (V x)) (hk : K x) : LdS S ⟨b, o, none⟩ V K :=
  ⟨x, fun w hw => by rw [(h w hw).cell]; exact hx, hk⟩
theorem nodup_get {l : List Nat} (h : l.Nodup) {i j x : Nat} (hi : l[i]? = some x) (hj : l[j]? = some x) : i = j := by
  obtain ⟨h1, e1⟩ := List.getElem?_eq_some_iff.1 hi
  obtain ⟨h2, e2⟩ := List.getElem?_eq_some_iff.1 hj
  exact (List.getElem_inj h).1 (e1.trans e2.symm)
theorem map_set_fst {v : Array Value × TypeId} {i : Nat} {c : Array Value × TypeId} (hi : L[i]? = some (b, c)) : (L.set i (b, v)).map (·.1) = L.map (·.1) := by
  rw [List.map_set]
  refine List.ext_getElem? fun j => ?_
  rw [List.getElem?_set]
  split
  · rename_i e
    subst e
    have : (L.map (·.1))[i]? = some b := by simp [hi]
    rw [this]
    simp
    exact (List.getElem?_eq_some_iff.1 hi).1
  · rfl
/-- One known block has turned. -/
theorem Hx.upd (h : Hx w0 F w L) (i : Nat) (hi : L[i]? = some (b, cs, t)) {w2 : World} {cs' : Array Value} (hb : Blk w2 b cs' t) (he : Ext (· = b) w w2) (hF : F b ∨ w0.heap.size ≤ b) : Hx w0 F w2 (L.set i (b, cs', t)) := by
  refine ⟨fun p hp => ?_, by rw [map_set_fst hi]; exact h.nodup, h.ext.trans he (fun _ h => h) fun k hk e => ?_⟩
  · obtain ⟨j, hj⟩ := List.getElem?_of_mem hp
    rw [List.getElem?_set] at hj
    split at hj
    · split at hj
      · cases hj; exact hb
      · cases hj
    · rename_i hne
      refine he.blk (h.blk p (List.mem_of_getElem? hj)) fun e => hne ?_
      exact nodup_get h.nodup (x := b) (by simp [hi]) (by simp [hj, e])
  · subst e
    rcases hF with hF | hF
    · exact hF
    · omega
theorem Hx.st {v : Value} {K : World → Prop} (h : Hx w0 F w L) (i : Nat) (hi : L[i]? = some (b, cs, t)) (ho : o < cs.size) (hF : F b ∨ w0.heap.size ≤ b)
    (k : ∀ w2, Hx w0 F w2 (L.set i (b, cs.setIfInBounds o v, t)) → K w2) : St w ⟨b, o, none⟩ v K :=
  ⟨(h.get i hi).can ho, k _ (h.upd i hi ((h.get i hi).set o v) ((Ext.refl (· = b) w).set (.inl rfl) v) hF)⟩
theorem Hx.keep (h : Hx w0 F w L) {w2 : World} (he : Ext (fun _ => False) w w2) : Hx w0 F w2 L :=
  ⟨fun p hp => he.blk (h.blk p hp) id, h.nodup, h.ext.trans he (fun _ h => h) (fun _ _ h => h.elim)⟩
theorem Hx.drew (h : Hx w0 F w L) : Hx w0 F w.drew L := h.keep (Ext.refl _ w).drew
theorem Hx.drewN (h : Hx w0 F w L) {n : Nat} : Hx w0 F (w.drewN n) L := h.keep ((Ext.refl _ w).drewN n)
/-- A block that is known besides. -/
theorem Hx.push (h : Hx w0 F w L) (hb : Blk w b cs t) (hne : b ∉ L.map (·.1)) : Hx w0 F w (L ++ [(b, cs, t)]) :=
  ⟨fun p hp => (List.mem_append.1 hp).elim (h.blk p) fun e => by rw [List.mem_singleton.1 e]; exact hb,
    by rw [List.map_append]; exact List.nodup_append.2 ⟨h.nodup, by simp, fun a ha c hc e => hne (by simp at hc; rw [← hc, ← e]; exact ha)⟩, h.ext⟩
theorem Hx.fresh (h : Hx w0 F w L) : w.heap.size ∉ L.map (·.1) := fun hm => by
  obtain ⟨p, hp, e⟩ := List.mem_map.1 hm
  have := (h.blk p hp).lt
  omega
theorem Hx.nw {K : World → Prop} (h : Hx w0 F w L) (k : ∀ w2, Hx w0 F w2 (L ++ [(w.heap.size, cs, t)]) → K w2) : Nw w (.cells cs t) K :=
  k _ ((h.keep ((Ext.refl _ w).alloc _)).push (Blk.new w cs t) h.fresh)
theorem Hx.nw' {K : World → Prop} (h : Hx w0 F w L) (k : ∀ w2, Hx w0 F w2 (L ++ [(w.heap.size, cs, t)]) → Ext (fun _ => False) w w2 → K w2) : Nw w (.cells cs t) K :=
  k _ ((h.keep ((Ext.refl _ w).alloc _)).push (Blk.new w cs t) h.fresh) ((Ext.refl _ w).alloc _)
theorem Hx.st' {v : Value} {K : World → Prop} (h : Hx w0 F w L) (i : Nat) (hi : L[i]? = some (b, cs, t)) (ho : o < cs.size) (hF : F b ∨ w0.heap.size ≤ b)
    (k : ∀ w2, Hx w0 F w2 (L.set i (b, cs.setIfInBounds o v, t)) → Ext (· = b) w w2 → K w2) : St w ⟨b, o, none⟩ v K :=
  ⟨(h.get i hi).can ho, k _ (h.upd i hi ((h.get i hi).set o v) ((Ext.refl (· = b) w).set (.inl rfl) v) hF) ((Ext.refl (· = b) w).set (.inl rfl) v)⟩
/-- Only one of them. -/
theorem Hx.only (h : Hx w0 F w L) (i : Nat) (hi : L[i]? = some (b, cs, t)) : Hx w0 F w [(b, cs, t)] :=
  ⟨fun p hp => by rw [List.mem_singleton.1 hp]; exact h.get i hi, by simp, h.ext⟩
theorem Hx.left {M : List (Nat × Array Value × TypeId)} (h : Hx w0 F w (L ++ M)) : Hx w0 F w L :=
  ⟨fun p hp => h.blk p (List.mem_append_left _ hp), by have := h.nodup; rw [List.map_append] at this; exact (List.nodup_append.1 this).1, h.ext⟩
/-- Other blocks have turned. -/
theorem Hx.other {G : Nat → Prop} {w2 : World} (h : Hx w0 F w L) (he : Ext G w w2) (hL : ∀ j, G j → j ∉ L.map (·.1)) (hF : ∀ j, G j → F j ∨ w0.heap.size ≤ j) : Hx w0 F w2 L :=
  ⟨fun p hp => he.blk (h.blk p hp) fun hg => hL _ hg (List.mem_map_of_mem hp), h.nodup, h.ext.trans he (fun _ h => h) fun k hk hg => (hF k hg).elim id fun h2 => by omega⟩
theorem Hx.size (h : Hx w0 F w L) : w0.heap.size ≤ w.heap.size := h.ext.size
theorem Hx.start (w : World) (F : Nat → Prop) : Hx w F w [] := ⟨fun _ h => (List.not_mem_nil h).elim, List.nodup_nil, Ext.refl _ _⟩
theorem Hx.one (h : Blk w b cs t) : Hx w F w [(b, cs, t)] := ⟨fun p hp => by rw [List.mem_singleton.1 hp]; exact h, by simp, Ext.refl _ _⟩
/-- The same world, another start. -/
theorem Hx.here (h : Hx w0 F w L) (G : Nat → Prop) : Hx w G w L := ⟨h.blk, h.nodup, Ext.refl _ _⟩
end

/-! ### Blocks that are new and known -/

def arr (L : List (Nat × List Value × TypeId)) : List (Nat × Array Value × TypeId) := L.map fun p => (p.1, p.2.1.toArray, p.2.2)
/-- Blocks made since the start, known whole; nothing older has changed. -/
structure Hn (w0 w : World) (L : List (Nat × List Value × TypeId)) : Prop where
  h : Hx w0 (fun _ => False) w (arr L)
  new : ∀ p ∈ L, w0.heap.size ≤ p.1
section
variable {w0 w : World} {L : List (Nat × List Value × TypeId)} {b o : Nat} {cs : List Value} {t : TypeId}
theorem arr_get {i : Nat} (hi : L[i]? = some (b, cs, t)) : (arr L)[i]? = some (b, cs.toArray, t) := by
  unfold arr
  rw [List.getElem?_map, hi]
  rfl
theorem arr_fst : (arr L).map (·.1) = L.map (·.1) := by
  unfold arr
  rw [List.map_map]
  rfl
theorem Hn.start (w : World) : Hn w w [] := ⟨Hx.start w _, fun _ h => (List.not_mem_nil h).elim⟩
theorem Hn.ext (h : Hn w0 w L) : Ext (fun _ => False) w0 w := h.h.ext
theorem Hn.size (h : Hn w0 w L) : w0.heap.size ≤ w.heap.size := h.h.ext.size
theorem Hn.get (h : Hn w0 w L) (i : Nat) (hi : L[i]? = some (b, cs, t)) : Blk w b cs.toArray t := h.h.get i (arr_get hi)
theorem Hn.lt (h : Hn w0 w L) (i : Nat) (hi : L[i]? = some (b, cs, t)) : b < w.heap.size := (h.get i hi).lt
theorem Hn.ge (h : Hn w0 w L) (i : Nat) (hi : L[i]? = some (b, cs, t)) : w0.heap.size ≤ b := h.new _ (List.mem_of_getElem? hi)
theorem Hn.ld {α : Type} {V : α → Value} {K : α → Prop} {x : α} (h : Hn w0 w L) (i : Nat) (hi : L[i]? = some (b, cs, t)) (hx : cs[o]? = some (V x)) (hk : K x) : Ld w ⟨b, o, none⟩ V K :=
  h.h.ld i (arr_get hi) (by simpa using hx) hk
theorem Hn.set (h : Hn w0 w L) {w2 : World} {cs' : List Value} (i : Nat) (hi : L[i]? = some (b, cs, t)) (h2 : Hx w0 (fun _ => False) w2 ((arr L).set i (b, cs'.toArray, t))) : Hn w0 w2 (L.set i (b, cs', t)) :=
  ⟨by unfold arr at h2 ⊢; rw [List.map_set]; exact h2, fun p hp => by
    rcases List.mem_or_eq_of_mem_set hp with hp | rfl
    · exact h.new p hp
    · exact h.ge i hi⟩
theorem Hn.st' {v : Value} {K : World → Prop} (h : Hn w0 w L) (i : Nat) (hi : L[i]? = some (b, cs, t)) (ho : o < cs.length)
    (k : ∀ w2, Hn w0 w2 (L.set i (b, cs.set o v, t)) → Ext (· = b) w w2 → K w2) : St w ⟨b, o, none⟩ v K :=
  h.h.st' i (arr_get hi) (by simpa using ho) (.inr (h.ge i hi)) fun w2 h2 he => k w2 (h.set i hi (by simpa using h2)) he
theorem Hn.st {v : Value} {K : World → Prop} (h : Hn w0 w L) (i : Nat) (hi : L[i]? = some (b, cs, t)) (ho : o < cs.length)
    (k : ∀ w2, Hn w0 w2 (L.set i (b, cs.set o v, t)) → K w2) : St w ⟨b, o, none⟩ v K := h.st' i hi ho fun w2 h2 _ => k w2 h2
theorem Hn.keep (h : Hn w0 w L) {w2 : World} (he : Ext (fun _ => False) w w2) : Hn w0 w2 L := ⟨h.h.keep he, h.new⟩
theorem Hn.drew (h : Hn w0 w L) : Hn w0 w.drew L := ⟨h.h.drew, h.new⟩
theorem Hn.drewN (h : Hn w0 w L) {n : Nat} : Hn w0 (w.drewN n) L := ⟨h.h.drewN, h.new⟩
theorem Hn.nw' {K : World → Prop} (h : Hn w0 w L) (k : ∀ w2, Hn w0 w2 (L ++ [(w.heap.size, cs, t)]) → Ext (fun _ => False) w w2 → K w2) : Nw w (.cells cs.toArray t) K :=
  h.h.nw' fun w2 h2 he => k w2 ⟨by unfold arr at h2 ⊢; rw [List.map_append]; exact h2, fun p hp => (List.mem_append.1 hp).elim (h.new p) fun hp => by rw [List.mem_singleton.1 hp]; exact h.size⟩ he
theorem Hn.nw {K : World → Prop} (h : Hn w0 w L) (k : ∀ w2, Hn w0 w2 (L ++ [(w.heap.size, cs, t)]) → K w2) : Nw w (.cells cs.toArray t) K := h.nw' fun w2 h2 _ => k w2 h2
theorem Hn.left {M : List (Nat × List Value × TypeId)} (h : Hn w0 w (L ++ M)) : Hn w0 w L :=
  ⟨by have := h.h; unfold arr at this ⊢; rw [List.map_append] at this; exact this.left, fun p hp => h.new p (List.mem_append_left _ hp)⟩
/-- Other blocks have turned that are new too. -/
theorem Hn.other {G : Nat → Prop} {w2 : World} (h : Hn w0 w L) (he : Ext G w w2) (hG : ∀ j, G j → w0.heap.size ≤ j ∧ j ∉ L.map (·.1)) : Hn w0 w2 L :=
  ⟨h.h.other he (fun j hj => by rw [arr_fst]; exact (hG j hj).2) fun j hj => .inr (hG j hj).1, h.new⟩
theorem Hn.push (h : Hn w0 w L) (hb : Blk w b cs.toArray t) (hn : w0.heap.size ≤ b) (hne : b ∉ L.map (·.1)) : Hn w0 w (L ++ [(b, cs, t)]) :=
  ⟨by have := h.h.push hb (by rw [arr_fst]; exact hne); unfold arr at this ⊢; rw [List.map_append]; exact this, fun p hp => (List.mem_append.1 hp).elim (h.new p) fun hp => by rw [List.mem_singleton.1 hp]; exact hn⟩
end

/-! ### Numbers -/

theorem i64_id {n : Int} (h : -9223372036854775808 ≤ n ∧ n ≤ 9223372036854775807) : IntKind.i64.wrap n = n := IntWalk.i64_in n h
theorem u8_id {n : Int} (h : 0 ≤ n ∧ n ≤ 255) : IntKind.u8.wrap n = n := IntWalk.u8_in n h
theorem tdiv_id {a b : Int} (h : 0 ≤ a) : Int.tdiv a b = a / b := Int.tdiv_eq_ediv_of_nonneg h
theorem tmod_id {a b : Int} (h : 0 ≤ a) : Int.tmod a b = a % b := Int.tmod_eq_emod_of_nonneg h

/-! ### Branches and strings -/

theorem Br.dec {p : Prop} [Decidable p] {A B : Prop} (h1 : p → A) (h2 : ¬ p → B) : Br (decide p) A B := by
  by_cases h : p
  · rw [decide_eq_true h]; exact h1 h
  · rw [decide_eq_false h]; exact h2 h
theorem Br.eq {α : Type} [BEq α] [LawfulBEq α] {a b : α} {A B : Prop} (h1 : a = b → A) (h2 : a ≠ b → B) : Br (a == b) A B :=
  Br_of (fun h => h1 (by simpa using h)) fun h => h2 (by simpa using h)
theorem Br.ne {α : Type} [BEq α] [LawfulBEq α] {a b : α} {A B : Prop} (h1 : a ≠ b → A) (h2 : a = b → B) : Br (a != b) A B :=
  Br_of (fun h => h1 (by simpa using h)) fun h => h2 (by simpa using h)
theorem size_list (s : ByteArray) : s.size = s.data.toList.length := Array.length_toList.symm
theorem extract_list (s : ByteArray) (a b : Nat) : (s.extract a b).data.toList = (s.data.toList.drop a).take (b - a) := by
  rw [ByteArray.data_extract, Array.toList_extract, List.extract_eq_take_drop]
theorem extract_drop (s : ByteArray) (a : Nat) : (s.extract a s.size).data.toList = s.data.toList.drop a := by
  rw [extract_list, List.take_of_length_le]
  rw [List.length_drop, size_list]
  exact Nat.le_refl _
theorem bAt_list (s : ByteArray) (i : Nat) : bAt s (i : Int) = ((s.data.toList.getD i 0).toNat : Int) := by
  unfold bAt
  rw [Int.toNat_natCast, Array.getD_eq_getD_getElem?, List.getD_eq_getElem?_getD, Array.getElem?_toList]
theorem ba_ext {s t : ByteArray} (h : s.data.toList = t.data.toList) : s = t := by
  cases s; cases t
  simp only [ByteArray.mk.injEq]
  exact Array.toList_inj.1 h

@[simp] theorem Slc.v_inj (a b : Slc) : Slc.v a = Slc.v b ↔ a = b := by
  cases a; cases b; simp [Slc.v]
end Sh
end Go.Proofs.YtjkoafjnmkchdaaGreatDoor

/- Numbers read bit by bit: plain laws, no program in sight. No condition. -/
namespace Go.Proofs.YtjkoafjnmkchdaaGreatDoor
namespace Bit
open Sh
set_option linter.unusedVariables false

/-- Byte i of a string, as a number. -/
def byt (s : ByteArray) (i : Nat) : Int := ((s.data.getD i 0).toNat : Int)
theorem byt_bd (s : ByteArray) (i : Nat) : 0 ≤ byt s i ∧ byt s i ≤ 255 := by
  unfold byt
  have := (s.data.getD i 0).toNat_lt
  omega
theorem bAt_byt (s : ByteArray) (i : Nat) : bAt s (i : Int) = byt s i := by
  unfold bAt byt
  rw [Int.toNat_natCast]
/-- Bit p of a string, in the order 'way' (1: least significant first). -/
def bt (s : ByteArray) (way : Int) (p : Nat) : Int := if way = 1 then byt s (p / 8) / 2 ^ (p % 8) % 2 else byt s (p / 8) / 2 ^ (7 - p % 8) % 2
theorem bt_bd (s : ByteArray) (way : Int) (p : Nat) : 0 ≤ bt s way p ∧ bt s way p ≤ 1 := by
  unfold bt
  split <;> omega
/-- The number in i bits from p on. -/
def tk (s : ByteArray) (way : Int) (p : Nat) : Nat → Int
  | 0 => 0
  | i + 1 => if way = 1 then tk s way p i + bt s way (p + i) * 2 ^ i else 2 * tk s way p i + bt s way (p + i)
theorem two_pow_pos (i : Nat) : (0 : Int) < 2 ^ i := Int.pow_pos (by decide)
theorem two_pow_succ (i : Nat) : (2 : Int) ^ (i + 1) = 2 * 2 ^ i := by rw [Int.pow_succ]; omega
theorem two_pow_le {i j : Nat} (h : i ≤ j) : (2 : Int) ^ i ≤ 2 ^ j := by
  obtain ⟨d, rfl⟩ := Nat.exists_eq_add_of_le h
  induction d with
  | zero => exact Int.le_refl _
  | succ d ih => have := ih (by omega); rw [← Nat.add_assoc, two_pow_succ]; have := two_pow_pos (i + d); omega
theorem two_pow_24 {i : Nat} (h : i ≤ 24) : (2 : Int) ^ i ≤ 16777216 := by
  have := two_pow_le h
  have e : (2 : Int) ^ 24 = 16777216 := by decide
  omega
theorem tk_bd (s : ByteArray) (way : Int) (p : Nat) : ∀ i, 0 ≤ tk s way p i ∧ tk s way p i < 2 ^ i
  | 0 => by simp [tk]
  | i + 1 => by
    have ih := tk_bd s way p i
    have hb := bt_bd s way (p + i)
    have hp := two_pow_pos i
    rw [two_pow_succ]
    unfold tk
    split
    · have h1 : bt s way (p + i) = 0 ∨ bt s way (p + i) = 1 := by omega
      rcases h1 with h1 | h1 <;> rw [h1] <;> omega
    · omega
/-- Reading i bits, then j bits. -/
theorem tk_low (s : ByteArray) (p i : Nat) : ∀ j, tk s 1 p (i + j) = tk s 1 (p + i) j * 2 ^ i + tk s 1 p i
  | 0 => by simp [tk]
  | j + 1 => by
    have ih := tk_low s p i j
    rw [← Nat.add_assoc]
    simp only [tk, if_true]
    rw [ih, ← Nat.add_assoc, Int.pow_add, Int.add_mul, Int.mul_assoc, Int.mul_comm ((2 : Int) ^ i)]
    omega
/-! ### The bit operations on small numbers -/

theorem ofInt_nat (n x : Nat) : BitVec.ofInt n (x : Int) = BitVec.ofNat n x := by
  apply BitVec.eq_of_toNat_eq
  simp
theorem iand_nat {x y : Nat} (hx : x < 2 ^ 63) (hy : y < 2 ^ 63) : iand .i64 (x : Int) (y : Int) = ((x &&& y : Nat) : Int) := by
  unfold iand
  rw [ofInt_nat, ofInt_nat]
  have h1 : (BitVec.ofNat IntKind.i64.bits x &&& BitVec.ofNat IntKind.i64.bits y).toNat = x &&& y := by
    rw [BitVec.toNat_and, BitVec.toNat_ofNat, BitVec.toNat_ofNat, Nat.mod_eq_of_lt (by simp [IntKind.bits]; omega), Nat.mod_eq_of_lt (by simp [IntKind.bits]; omega)]
  rw [h1]
  have h2 : x &&& y < 2 ^ 63 := Nat.and_lt_two_pow x hy
  exact i64_id (by omega)
theorem ior_nat {x y : Nat} (hx : x < 2 ^ 63) (hy : y < 2 ^ 63) : ior .i64 (x : Int) (y : Int) = ((x ||| y : Nat) : Int) := by
  unfold ior
  rw [ofInt_nat, ofInt_nat]
  have h1 : (BitVec.ofNat IntKind.i64.bits x ||| BitVec.ofNat IntKind.i64.bits y).toNat = x ||| y := by
    rw [BitVec.toNat_or, BitVec.toNat_ofNat, BitVec.toNat_ofNat, Nat.mod_eq_of_lt (by simp [IntKind.bits]; omega), Nat.mod_eq_of_lt (by simp [IntKind.bits]; omega)]
  rw [h1]
  have h2 : x ||| y < 2 ^ 63 := Nat.or_lt_two_pow hx hy
  exact i64_id (by omega)
theorem ior_u8_nat {x y : Nat} (hx : x < 2 ^ 8) (hy : y < 2 ^ 8) : ior .u8 (x : Int) (y : Int) = ((x ||| y : Nat) : Int) := by
  unfold ior
  rw [ofInt_nat, ofInt_nat]
  have h1 : (BitVec.ofNat IntKind.u8.bits x ||| BitVec.ofNat IntKind.u8.bits y).toNat = x ||| y := by
    rw [BitVec.toNat_or, BitVec.toNat_ofNat, BitVec.toNat_ofNat, Nat.mod_eq_of_lt (by simp [IntKind.bits]; omega), Nat.mod_eq_of_lt (by simp [IntKind.bits]; omega)]
  rw [h1]
  have h2 : x ||| y < 2 ^ 8 := Nat.or_lt_two_pow hx hy
  exact u8_id (by omega)
theorem iand_one {x : Int} (h0 : 0 ≤ x) (h1 : x < 9223372036854775808) : iand .i64 x 1 = x % 2 := by
  obtain ⟨n, rfl⟩ := Int.eq_ofNat_of_zero_le h0
  rw [show (1 : Int) = ((1 : Nat) : Int) from rfl, iand_nat (by omega) (by omega), Nat.and_one_is_mod]
  omega
/-- Or-ing in a bit that is not there yet. -/
theorem or_shift {x b i : Nat} (hx : x < 2 ^ i) : x ||| b * 2 ^ i = x + b * 2 ^ i := by
  rw [Nat.or_comm, ← Nat.shiftLeft_eq, ← Nat.shiftLeft_add_eq_or_of_lt hx, Nat.add_comm]
theorem ior_low {x b : Int} {i : Nat} (h0 : 0 ≤ x) (h1 : x < 2 ^ i) (hb : 0 ≤ b ∧ b ≤ 1) (hi : i ≤ 24) : ior .i64 x (b * 2 ^ i) = x + b * 2 ^ i := by
  obtain ⟨n, rfl⟩ := Int.eq_ofNat_of_zero_le h0
  obtain ⟨c, rfl⟩ := Int.eq_ofNat_of_zero_le hb.1
  have e : ((c : Int) * 2 ^ i) = ((c * 2 ^ i : Nat) : Int) := by simp
  have hn : n < 2 ^ i := by exact_mod_cast h1
  have hp' : 2 ^ i ≤ 2 ^ 24 := Nat.pow_le_pow_right (by decide) hi
  have h24 : (2 : Nat) ^ 24 = 16777216 := by decide
  have hc : c * 2 ^ i ≤ 1 * 2 ^ i := Nat.mul_le_mul_right _ (by omega)
  rw [e, ior_nat (by omega) (by omega), or_shift hn, Int.natCast_add]
theorem ior_high {x b : Int} (h0 : 0 ≤ x) (h1 : x < 16777216) (hb : 0 ≤ b ∧ b ≤ 1) : ior .i64 (x * 2) b = 2 * x + b := by
  obtain ⟨n, rfl⟩ := Int.eq_ofNat_of_zero_le h0
  obtain ⟨c, rfl⟩ := Int.eq_ofNat_of_zero_le hb.1
  have e : ((n : Int) * 2) = ((n * 2 : Nat) : Int) := by omega
  rw [e, ior_nat (by omega) (by omega), Nat.or_comm]
  have := or_shift (x := c) (b := n) (i := 1) (by omega)
  simp only [Nat.pow_one] at this
  rw [this]
  omega
theorem fdiv_pow {x : Int} {i : Nat} : Int.fdiv x (2 ^ i) = x / 2 ^ i := Int.fdiv_eq_ediv_of_nonneg x (Int.le_of_lt (two_pow_pos i))
theorem ediv_pow_bd {x : Int} {i : Nat} (h : 0 ≤ x) : 0 ≤ x / 2 ^ i ∧ x / 2 ^ i ≤ x :=
  ⟨Int.ediv_nonneg h (Int.le_of_lt (two_pow_pos i)), Int.ediv_le_self _ h⟩
end Bit
end Go.Proofs.YtjkoafjnmkchdaaGreatDoor

/- Inflate: what it answers, said plainly; no program in sight. -/
namespace Go.Proofs.YtjkoafjnmkchdaaGreatDoor
namespace Inf
open Sh Bit
set_option linter.unusedVariables false
set_option linter.unusedSimpArgs false
/-- n bits at p, least significant first. -/
def num (s : ByteArray) (p n : Nat) : Except Int (Int × Nat) := if p + n ≤ 8 * s.size then .ok (tk s 1 p n, p + n) else .error 4
/-- The signs of length n, among the first i. -/
def idxT (lens : List Int) (n i : Nat) : List Nat := (List.range i).filter fun j => lens.getD j 0 == (n : Int)
def idxs (lens : List Int) (n : Nat) : List Nat := idxT lens n lens.length
def cntT (lens : List Int) (n i : Nat) : Nat := (idxT lens n i).length
def cnt (lens : List Int) (n : Nat) : Nat := cntT lens n lens.length
def longT (lens : List Int) : Nat → Int
  | 0 => 0
  | i + 1 => if lens.getD i 0 > longT lens i then lens.getD i 0 else longT lens i
def longest (lens : List Int) : Nat := (longT lens lens.length).toNat
def kr (lens : List Int) : Nat → Int
  | 0 => 0
  | i + 1 => if 0 < lens.getD i 0 then kr lens i + 2 ^ (15 - (lens.getD i 0).toNat) else kr lens i
def usedT (lens : List Int) : Nat → Int
  | 0 => 0
  | i + 1 => if lens.getD i 0 ≠ 0 then usedT lens i + 1 else usedT lens i
/-- Why lengths are no code's. -/
def chk (lens : List Int) : Int := if 288 < lens.length then 6 else if lens.any (fun l => decide (l < 0) || decide (15 < l)) = true then 1
  else if kr lens lens.length = 32768 ∨ kr lens lens.length = 0 ∨ (usedT lens lens.length = 1 ∧ longT lens lens.length = 1) then 0 else 13
/-- One sign of a code, read bit by bit: k lengths are left, n is the next. -/
def sgo (lens : List Int) (s : ByteArray) : Nat → Nat → Int → Int → Nat → Except Int (Nat × Nat)
  | 0, _, _, _, _ => .error 13
  | k + 1, n, code, first, p => if 8 * s.size ≤ p then .error 4
    else if 2 * code + bt s 1 p - 2 * first < (cnt lens n : Int) then .ok ((idxs lens n).getD (2 * code + bt s 1 p - 2 * first).toNat 0, p + 1)
    else sgo lens s k (n + 1) (2 * code + bt s 1 p) (2 * first + (cnt lens n : Int)) (p + 1)
def sym (lens : List Int) (s : ByteArray) (p : Nat) : Except Int (Nat × Nat) := sgo lens s (longest lens) 1 0 0 p
/-- A stored block. -/
def stored (s : ByteArray) (p : Nat) (out : List UInt8) (most : Nat) : Except Int (List UInt8 × Nat) :=
  match num s ((p + 7) / 8 * 8) 16 with
  | .error e => .error e
  | .ok (n, p1) => match num s p1 16 with
    | .error e => .error e
    | .ok (m, p2) => if m ≠ 65535 - n then .error 3 else if ¬ out.length + n.toNat ≤ most then .error 5 else if ¬ p2 / 8 + n.toNat ≤ s.size then .error 4
      else .ok (out ++ (s.extract (p2 / 8) (p2 / 8 + n.toNat)).data.toList, p2 + 8 * n.toNat)
/-- How a repeat is read: the bits, the least number. -/
def repB (sg : Nat) : Nat := if sg = 18 then 7 else if sg = 17 then 3 else 2
def repL (sg : Nat) : Nat := if sg = 18 then 11 else 3
/-- Lengths, run by run. -/
def lensF (lens : List Int) (s : ByteArray) (many : Nat) : Nat → List Int → Nat → Except Int (List Int × Nat)
  | 0, _, _ => .error 0
  | k + 1, l, p => if many ≤ l.length then .ok (l, p) else match sym lens s p with
    | .error e => .error e
    | .ok (sg, p1) => if sg < 16 then lensF lens s many k (l ++ [(sg : Int)]) p1
      else if sg = 16 ∧ l.length = 0 then .error 3
      else match num s p1 (repB sg) with
        | .error e => .error e
        | .ok (v, p2) => if many < l.length + (repL sg + v.toNat) then .error 3
          else lensF lens s many k (l ++ List.replicate (repL sg + v.toNat) (if sg = 16 then l.getD (l.length - 1) 0 else 0)) p2
def order : List Nat := [16, 17, 18, 0, 8, 7, 9, 6, 10, 5, 11, 4, 12, 3, 13, 2, 14, 1, 15]
def lens19 (s : ByteArray) : List Nat → List Int → Nat → Except Int (List Int × Nat)
  | [], l, p => .ok (l, p)
  | o :: r, l, p => match num s p 3 with
    | .error e => .error e
    | .ok (v, q) => lens19 s r (l.set o v) q
/-- A dynamic block's two codes. -/
def dyn (s : ByteArray) (p : Nat) : Except Int (List Int × List Int × Nat) :=
  match num s p 5 with
  | .error e => .error e
  | .ok (hl, p1) => if 29 < hl then .error 3 else match num s p1 5 with
    | .error e => .error e
    | .ok (hd, p2) => if 29 < hd then .error 3 else match num s p2 4 with
      | .error e => .error e
      | .ok (hc, p3) => match lens19 s (order.take (hc.toNat + 4)) (List.replicate 19 0) p3 with
        | .error e => .error e
        | .ok (l19, p4) => if chk l19 ≠ 0 then .error (chk l19) else match lensF l19 s (hl.toNat + 257 + (hd.toNat + 1)) (hl.toNat + 257 + (hd.toNat + 1) + 1) [] p4 with
          | .error e => .error e
          | .ok (l, p5) => if l.getD 256 0 = 0 then .error 13 else if chk (l.take (hl.toNat + 257)) ≠ 0 then .error (chk (l.take (hl.toNat + 257)))
            else if chk (l.drop (hl.toNat + 257)) ≠ 0 then .error (chk (l.drop (hl.toNat + 257))) else .ok (l.take (hl.toNat + 257), l.drop (hl.toNat + 257), p5)
/-- The extra bits of a length's and of a distance's sign, and the first value. -/
def moreL (k : Nat) : Nat := if k = 28 then 0 else k / 4 - 1
def moreD (k : Nat) : Nat := k / 2 - 1
def baseL : Nat → Nat
  | 0 => 3
  | k + 1 => baseL k + 2 ^ (k / 4 - 1)
def baseD : Nat → Nat
  | 0 => 1
  | k + 1 => baseD k + 2 ^ (k / 2 - 1)
def firstL (k : Nat) : Nat := if k = 28 then 258 else baseL k
def sizeF (sign more : Int) : Int × Int := if sign < 257 ∨ 285 < sign then (0, 1) else if more < 0 ∨ 2 ^ moreL (sign - 257).toNat ≤ more then (0, 1) else (firstL (sign - 257).toNat + more, 0)
def farF (sign more : Int) : Int × Int := if sign < 0 ∨ 29 < sign then (0, 1) else if more < 0 ∨ 2 ^ moreD sign.toNat ≤ more then (0, 1) else (baseD sign.toNat + more, 0)
def copy (out : List UInt8) (d : Nat) : Nat → List UInt8
  | 0 => out
  | n + 1 => copy out d n ++ [(copy out d n).getD ((copy out d n).length - d) 0]
/-- The rest of a copy. -/
def copied (s : ByteArray) (far : List Int) (most : Nat) (sg : Nat) (out : List UInt8) (p : Nat) : Except Int (List UInt8 × Nat) :=
  if 285 < sg then .error 13 else match num s p (moreL (sg - 257)) with
  | .error e => .error e
  | .ok (v, p1) => match sym far s p1 with
    | .error e => .error e
    | .ok (d, p2) => if 29 < d then .error 13 else match num s p2 (moreD d) with
      | .error e => .error e
      | .ok (x, p3) => if out.length < baseD d + x.toNat then .error 14 else if most < out.length + (firstL (sg - 257) + v.toNat) then .error 5
        else .ok (copy out (baseD d + x.toNat) (firstL (sg - 257) + v.toNat), p3)
/-- Signs up to the end of a block. -/
def signsF (s : ByteArray) (near far : List Int) (most : Nat) : Nat → List UInt8 → Nat → Except Int (List UInt8 × Nat)
  | 0, _, _ => .error 0
  | k + 1, out, p => match sym near s p with
    | .error e => .error e
    | .ok (sg, p1) => if sg = 256 then .ok (out, p1) else if 256 < sg then match copied s far most sg out p1 with
        | .error e => .error e
        | .ok (o, q) => signsF s near far most k o q
      else if most ≤ out.length then .error 5 else signsF s near far most k (out ++ [UInt8.ofNat sg]) p1
def fixL : List Int := List.replicate 144 8 ++ List.replicate 112 9 ++ List.replicate 24 7 ++ List.replicate 8 8
def fixD : List Int := List.replicate 32 5
/-- A block of a kind. -/
def block (s : ByteArray) (most : Nat) (kind : Int) (out : List UInt8) (p : Nat) : Except Int (List UInt8 × Nat) :=
  if kind = 3 then .error 3 else if kind = 0 then stored s p out most else if kind = 2 then match dyn s p with
    | .error e => .error e
    | .ok (a, b, q) => signsF s a b most (8 * s.size + 1) out q
  else signsF s fixL fixD most (8 * s.size + 1) out p
/-- Block after block. -/
def allF (s : ByteArray) (most : Nat) : Nat → List UInt8 → Nat → Except Int (List UInt8 × Nat)
  | 0, _, _ => .error 0
  | k + 1, out, p => match num s p 1 with
    | .error e => .error e
    | .ok (last, p1) => match num s p1 2 with
      | .error e => .error e
      | .ok (kind, p2) => match block s most kind out p2 with
        | .error e => .error e
        | .ok (o, q) => if last = 1 then .ok (o, (q + 7) / 8) else allF s most k o q
/-- What All answers: the data, the bytes used, the error. -/
def allR (s : ByteArray) (most : Int) : ByteArray × Int × Int := if most < 0 then (⟨#[]⟩, 0, 1) else match allF s (min most 1048576).toNat (8 * s.size + 1) [] 0 with
  | .error e => (⟨#[]⟩, 0, e)
  | .ok (o, n) => (⟨o.toArray⟩, (n : Int), 0)
/-! ### Positions rise, and stay within the bytes -/
theorem num_ok {s : ByteArray} {p n : Nat} {v : Int} {q : Nat} (h : num s p n = .ok (v, q)) : v = tk s 1 p n ∧ q = p + n ∧ p + n ≤ 8 * s.size := by
  unfold num at h
  split at h
  · cases h; exact ⟨rfl, rfl, ‹_›⟩
  · cases h
theorem num_bd {s : ByteArray} {p n : Nat} {v : Int} {q : Nat} (h : num s p n = .ok (v, q)) : 0 ≤ v ∧ v < 2 ^ n ∧ q = p + n ∧ q ≤ 8 * s.size := by
  obtain ⟨rfl, rfl, h3⟩ := num_ok h
  have := tk_bd s 1 p n
  exact ⟨this.1, this.2, rfl, h3⟩
theorem idxs_get {lens : List Int} {n k : Nat} (h : k < cnt lens n) : (idxs lens n).getD k 0 < lens.length ∧ lens.getD ((idxs lens n).getD k 0) 0 = (n : Int) := by
  have hm : (idxs lens n).getD k 0 ∈ idxs lens n := by
    have h' : k < (idxs lens n).length := h
    rw [List.getD_eq_getElem?_getD, List.getElem?_eq_getElem h']
    exact List.getElem_mem h'
  generalize (idxs lens n).getD k 0 = x at hm
  unfold idxs idxT at hm
  obtain ⟨h1, h2⟩ := List.mem_filter.1 hm
  exact ⟨List.mem_range.1 h1, by simpa using h2⟩
theorem sgo_ok {lens : List Int} {s : ByteArray} {g q : Nat} : ∀ (k n : Nat) (c f : Int) (p : Nat), sgo lens s k n c f p = .ok (g, q) → p < q ∧ q ≤ 8 * s.size ∧ (f ≤ c → g < lens.length ∧ ∃ m, n ≤ m ∧ m < n + k ∧ lens.getD g 0 = (m : Int))
  | 0, n, c, f, p, h => by cases h
  | k + 1, n, c, f, p, h => by
    unfold sgo at h
    split at h
    · cases h
    · have hb := bt_bd s 1 p
      split at h
      · rename_i h1 h2
        cases h
        refine ⟨by omega, by omega, fun hcf => ?_⟩
        have := idxs_get (lens := lens) (n := n) (k := (2 * c + bt s 1 p - 2 * f).toNat) (by omega)
        exact ⟨this.1, n, Nat.le_refl _, by omega, this.2⟩
      · rename_i h1 h2
        obtain ⟨a1, a2, a3⟩ := sgo_ok k (n + 1) _ _ (p + 1) h
        refine ⟨by omega, a2, fun hcf => ?_⟩
        obtain ⟨b1, m, b2, b3, b4⟩ := a3 (by omega)
        exact ⟨b1, m, by omega, by omega, b4⟩
theorem sym_ok {lens : List Int} {s : ByteArray} {g p q : Nat} (h : sym lens s p = .ok (g, q)) : p < q ∧ q ≤ 8 * s.size ∧ g < lens.length := by
  obtain ⟨a1, a2, a3⟩ := sgo_ok _ _ _ _ _ h
  exact ⟨a1, a2, (a3 (Int.le_refl _)).1⟩
theorem copy_len (out : List UInt8) (d : Nat) : ∀ n, (copy out d n).length = out.length + n
  | 0 => rfl
  | n + 1 => by
    show (copy out d n ++ [_]).length = _
    rw [List.length_append, copy_len out d n]
    rfl
theorem stored_ok {s : ByteArray} {p : Nat} {out o : List UInt8} {most q : Nat} (h : stored s p out most = .ok (o, q)) : p ≤ q ∧ q ≤ 8 * s.size ∧ o.length ≤ most := by
  unfold stored at h
  split at h
  · cases h
  · rename_i n p1 h1
    split at h
    · cases h
    · rename_i m p2 h2
      obtain ⟨b1, b2, b3, b4⟩ := num_bd h1
      obtain ⟨c1, c2, c3, c4⟩ := num_bd h2
      split at h
      · cases h
      · split at h
        · cases h
        · rename_i h4
          split at h
          · cases h
          · rename_i h5
            cases h
            refine ⟨by omega, by omega, ?_⟩
            rw [List.length_append]
            have e1 : (s.extract (p2 / 8) (p2 / 8 + n.toNat)).data.toList.length = (s.extract (p2 / 8) (p2 / 8 + n.toNat)).size := Array.length_toList
            rw [e1, ByteArray.size_extract]
            omega
theorem copied_ok {s : ByteArray} {far : List Int} {most sg p q : Nat} {out o : List UInt8} (h : copied s far most sg out p = .ok (o, q)) : p ≤ q ∧ q ≤ 8 * s.size ∧ o.length ≤ most := by
  unfold copied at h
  split at h
  · cases h
  · split at h
    · cases h
    · rename_i v p1 h1
      obtain ⟨b1, b2, b3, b4⟩ := num_bd h1
      split at h
      · cases h
      · rename_i d p2 h2
        obtain ⟨c1, c2, c3⟩ := sym_ok h2
        split at h
        · cases h
        · split at h
          · cases h
          · rename_i x p3 h3
            obtain ⟨d1, d2, d3, d4⟩ := num_bd h3
            split at h
            · cases h
            · split at h
              · cases h
              · cases h
                exact ⟨by omega, by omega, by rw [copy_len]; omega⟩
theorem signsF_ok {s : ByteArray} {near far : List Int} {most q : Nat} {o : List UInt8} : ∀ (k : Nat) (out : List UInt8) (p : Nat), out.length ≤ most → signsF s near far most k out p = .ok (o, q) → p < q ∧ q ≤ 8 * s.size ∧ o.length ≤ most
  | 0, _, _, _, h => by cases h
  | k + 1, out, p, hm, h => by
    unfold signsF at h
    split at h
    · cases h
    · rename_i sg p1 h1
      obtain ⟨c1, c2, c3⟩ := sym_ok h1
      split at h
      · cases h; exact ⟨c1, c2, hm⟩
      · split at h
        · split at h
          · cases h
          · rename_i o2 q2 h2
            obtain ⟨d1, d2, d3⟩ := copied_ok h2
            obtain ⟨e1, e2, e3⟩ := signsF_ok k o2 q2 d3 h
            exact ⟨by omega, e2, e3⟩
        · split at h
          · cases h
          · obtain ⟨e1, e2, e3⟩ := signsF_ok k _ p1 (by rw [List.length_append]; simp; omega) h
            exact ⟨by omega, e2, e3⟩
theorem lens19_ok {s : ByteArray} : ∀ (r : List Nat) (l l2 : List Int) (p q : Nat), p ≤ 8 * s.size → lens19 s r l p = .ok (l2, q) → p ≤ q ∧ q ≤ 8 * s.size ∧ l2.length = l.length
  | [], l, l2, p, q, hp, h => by cases h; exact ⟨Nat.le_refl _, hp, rfl⟩
  | o :: r, l, l2, p, q, hp, h => by
    unfold lens19 at h
    split at h
    · cases h
    · rename_i v p1 h1
      obtain ⟨b1, b2, b3, b4⟩ := num_bd h1
      obtain ⟨c1, c2, c3⟩ := lens19_ok r _ l2 p1 q b4 h
      exact ⟨by omega, c2, by rw [c3, List.length_set]⟩
theorem lensF_ok {s : ByteArray} {lens l2 : List Int} {many q : Nat} : ∀ (k : Nat) (l : List Int) (p : Nat), p ≤ 8 * s.size → l.length ≤ many → lensF lens s many k l p = .ok (l2, q) → p ≤ q ∧ q ≤ 8 * s.size ∧ l2.length = many
  | 0, _, _, _, _, h => by cases h
  | k + 1, l, p, hp, hl, h => by
    unfold lensF at h
    split at h
    · cases h; exact ⟨Nat.le_refl _, hp, by omega⟩
    · split at h
      · cases h
      · rename_i sg p1 h1
        obtain ⟨c1, c2, c3⟩ := sym_ok h1
        split at h
        · obtain ⟨d1, d2, d3⟩ := lensF_ok k _ p1 c2 (by rw [List.length_append]; simp; omega) h
          exact ⟨by omega, d2, d3⟩
        · split at h
          · cases h
          · split at h
            · cases h
            · rename_i v p2 h2
              obtain ⟨b1, b2, b3, b4⟩ := num_bd h2
              split at h
              · cases h
              · obtain ⟨d1, d2, d3⟩ := lensF_ok k _ p2 b4 (by rw [List.length_append, List.length_replicate]; omega) h
                exact ⟨by omega, d2, d3⟩
theorem dyn_ok {s : ByteArray} {a b : List Int} {p q : Nat} (hp : p ≤ 8 * s.size) (h : dyn s p = .ok (a, b, q)) : p ≤ q ∧ q ≤ 8 * s.size := by
  unfold dyn at h
  split at h
  · cases h
  · rename_i hl p1 h1
    obtain ⟨a1, a2, a3, a4⟩ := num_bd h1
    split at h
    · cases h
    · split at h
      · cases h
      · rename_i hd p2 h2
        obtain ⟨b1, b2, b3, b4⟩ := num_bd h2
        split at h
        · cases h
        · split at h
          · cases h
          · rename_i hc p3 h3
            obtain ⟨c1, c2, c3, c4⟩ := num_bd h3
            split at h
            · cases h
            · rename_i l19 p4 h4
              obtain ⟨d1, d2, d3⟩ := lens19_ok _ _ _ _ _ c4 h4
              split at h
              · cases h
              · split at h
                · cases h
                · rename_i l p5 h5
                  obtain ⟨e1, e2, e3⟩ := lensF_ok _ _ _ d2 (by simp) h5
                  split at h
                  · cases h
                  · split at h
                    · cases h
                    · split at h
                      · cases h
                      · cases h
                        exact ⟨by omega, e2⟩
theorem block_ok {s : ByteArray} {most q p : Nat} {kind : Int} {out o : List UInt8} (hp : p ≤ 8 * s.size) (hm : out.length ≤ most) (h : block s most kind out p = .ok (o, q)) : p ≤ q ∧ q ≤ 8 * s.size ∧ o.length ≤ most := by
  unfold block at h
  split at h
  · cases h
  · split at h
    · exact stored_ok h
    · split at h
      · split at h
        · cases h
        · rename_i a b q2 h2
          obtain ⟨a1, a2⟩ := dyn_ok hp h2
          obtain ⟨b1, b2, b3⟩ := signsF_ok _ _ _ hm h
          exact ⟨by omega, b2, b3⟩
      · obtain ⟨b1, b2, b3⟩ := signsF_ok _ _ _ hm h
        exact ⟨by omega, b2, b3⟩
/-! ### Counting -/
theorem idxT_succ (lens : List Int) (n i : Nat) : idxT lens n (i + 1) = if lens.getD i 0 = (n : Int) then idxT lens n i ++ [i] else idxT lens n i := by
  unfold idxT
  rw [List.range_succ, List.filter_append]
  by_cases h : lens.getD i 0 = (n : Int)
  · rw [if_pos h]
    have : (lens.getD i 0 == (n : Int)) = true := beq_iff_eq.2 h
    simp only [List.filter, this]
  · rw [if_neg h]
    have : (lens.getD i 0 == (n : Int)) = false := by simpa using h
    simp only [List.filter, this, List.append_nil]
theorem cntT_succ (lens : List Int) (n i : Nat) : cntT lens n (i + 1) = if lens.getD i 0 = (n : Int) then cntT lens n i + 1 else cntT lens n i := by
  unfold cntT
  rw [idxT_succ]
  split
  · rw [List.length_append]; rfl
  · rfl
theorem cntT_le (lens : List Int) (n : Nat) : ∀ i, cntT lens n i ≤ i
  | 0 => Nat.le_refl _
  | i + 1 => by
    have := cntT_le lens n i
    rw [cntT_succ]
    split <;> omega
/-- Lengths within their range, not too many. -/
structure Lok (lens : List Int) : Prop where
  len : lens.length ≤ 288
  nn : ∀ i, 0 ≤ lens.getD i 0 ∧ lens.getD i 0 ≤ 15
theorem any_bad {lens : List Int} : (lens.any (fun l => decide (l < 0) || decide (15 < l)) = true) ↔ ¬ ∀ i, 0 ≤ lens.getD i 0 ∧ lens.getD i 0 ≤ 15 := by
  constructor
  · intro h hall
    obtain ⟨x, hx, hb⟩ := List.any_eq_true.1 h
    obtain ⟨i, hi, rfl⟩ := List.mem_iff_getElem.1 hx
    have := hall i
    rw [List.getD_eq_getElem?_getD, List.getElem?_eq_getElem hi] at this
    simp only [Option.getD_some] at this
    simp at hb
    omega
  · intro h
    cases hh : lens.any (fun l => decide (l < 0) || decide (15 < l)) with
    | true => rfl
    | false =>
      refine absurd (fun i => ?_) h
      by_cases hi : i < lens.length
      · have := List.any_eq_false.1 hh lens[i] (List.getElem_mem hi)
        rw [List.getD_eq_getElem?_getD, List.getElem?_eq_getElem hi]
        simp at this ⊢
        omega
      · rw [List.getD_eq_getElem?_getD, List.getElem?_eq_none (by omega)]
        simp
theorem chk_lok {lens : List Int} (h : chk lens = 0) : Lok lens := by
  unfold chk at h
  split at h
  · cases h
  · split at h
    · cases h
    · rename_i h1 h2
      rw [any_bad] at h2
      exact ⟨by omega, Classical.not_not.1 h2⟩
theorem chk_many {lens : List Int} (h : 288 < lens.length) : chk lens = 6 := by unfold chk; rw [if_pos h]
theorem chk_arg {lens : List Int} (h : ¬ 288 < lens.length) {i : Nat} (hi : ¬ (0 ≤ lens.getD i 0 ∧ lens.getD i 0 ≤ 15)) : chk lens = 1 := by
  unfold chk
  rw [if_neg h, if_pos (any_bad.2 fun hh => hi (hh i))]
theorem chk_rest {lens : List Int} (h : Lok lens) : chk lens = if kr lens lens.length = 32768 ∨ kr lens lens.length = 0 ∨ (usedT lens lens.length = 1 ∧ longT lens lens.length = 1) then 0 else 13 := by
  unfold chk
  rw [if_neg (by have := h.len; omega), if_neg (fun hh => any_bad.1 hh h.nn)]
/-- The sum over the lengths that the program adds up. -/
def kS (lens : List Int) (i : Nat) : Nat → Int
  | 0 => 0
  | l + 1 => kS lens i l + (cntT lens (l + 1) i : Int) * 2 ^ (15 - (l + 1))
def uS (lens : List Int) (i : Nat) : Nat → Int
  | 0 => 0
  | l + 1 => uS lens i l + (cntT lens (l + 1) i : Int)
theorem kS_step (lens : List Int) (i : Nat) : ∀ l, (0 ≤ lens.getD i 0) → kS lens (i + 1) l = kS lens i l + (if 0 < lens.getD i 0 ∧ lens.getD i 0 ≤ (l : Int) then 2 ^ (15 - (lens.getD i 0).toNat) else 0)
  | 0, h => by
    rw [if_neg (by omega)]
    rfl
  | l + 1, h => by
    have ih := kS_step lens i l h
    show kS lens (i + 1) l + (cntT lens (l + 1) (i + 1) : Int) * 2 ^ (15 - (l + 1)) = kS lens i l + (cntT lens (l + 1) i : Int) * 2 ^ (15 - (l + 1)) + _
    rw [ih, cntT_succ]
    by_cases he : lens.getD i 0 = ((l + 1 : Nat) : Int)
    · rw [if_pos he, if_neg (by omega), if_pos (by omega), show (lens.getD i 0).toNat = l + 1 by omega]
      rw [Int.natCast_add, Int.add_mul]
      omega
    · rw [if_neg he]
      by_cases h2 : 0 < lens.getD i 0 ∧ lens.getD i 0 ≤ (l : Int)
      · rw [if_pos h2, if_pos (by omega)]; omega
      · rw [if_neg h2, if_neg (by omega)]; omega
theorem uS_step (lens : List Int) (i : Nat) : ∀ l, (0 ≤ lens.getD i 0) → uS lens (i + 1) l = uS lens i l + (if 0 < lens.getD i 0 ∧ lens.getD i 0 ≤ (l : Int) then 1 else 0)
  | 0, h => by
    rw [if_neg (by omega)]
    rfl
  | l + 1, h => by
    have ih := uS_step lens i l h
    show uS lens (i + 1) l + (cntT lens (l + 1) (i + 1) : Int) = uS lens i l + (cntT lens (l + 1) i : Int) + _
    rw [ih, cntT_succ]
    by_cases he : lens.getD i 0 = ((l + 1 : Nat) : Int)
    · rw [if_pos he, if_neg (by omega), if_pos (by omega)]; omega
    · rw [if_neg he]
      by_cases h2 : 0 < lens.getD i 0 ∧ lens.getD i 0 ≤ (l : Int)
      · rw [if_pos h2, if_pos (by omega)]; omega
      · rw [if_neg h2, if_neg (by omega)]; omega
theorem kS_zero (lens : List Int) : ∀ l, kS lens 0 l = 0 ∧ uS lens 0 l = 0
  | 0 => ⟨rfl, rfl⟩
  | l + 1 => by
    obtain ⟨a, b⟩ := kS_zero lens l
    refine ⟨?_, ?_⟩
    · show kS lens 0 l + ((0 : Nat) : Int) * _ = 0
      rw [a]; simp
    · show uS lens 0 l + ((0 : Nat) : Int) = 0
      rw [b]; rfl
theorem kS_kr {lens : List Int} (h : Lok lens) : ∀ i, kS lens i 15 = kr lens i
  | 0 => (kS_zero lens 15).1
  | i + 1 => by
    have hn := h.nn i
    rw [kS_step lens i 15 hn.1, kS_kr h i]
    show _ = if 0 < lens.getD i 0 then _ else _
    by_cases h0 : 0 < lens.getD i 0
    · rw [if_pos ⟨h0, hn.2⟩, if_pos h0]
    · rw [if_neg (fun hh => h0 hh.1), if_neg h0]; omega
theorem uS_used {lens : List Int} (h : Lok lens) : ∀ i, uS lens i 15 = usedT lens i
  | 0 => (kS_zero lens 15).2
  | i + 1 => by
    have hn := h.nn i
    rw [uS_step lens i 15 hn.1, uS_used h i]
    show _ = if lens.getD i 0 ≠ 0 then _ else _
    by_cases h0 : 0 < lens.getD i 0
    · rw [if_pos ⟨h0, hn.2⟩, if_pos (by omega)]
    · rw [if_neg (fun hh => h0 hh.1), if_neg (by omega)]; omega
theorem used_kr {lens : List Int} (h : Lok lens) : ∀ i, 0 ≤ usedT lens i ∧ usedT lens i ≤ kr lens i ∧ (usedT lens i = 0 → kr lens i = 0 ∧ longT lens i = 0 ∧ cntT lens 1 i = 0) ∧ (usedT lens i = 1 → (longT lens i = 1 ↔ cntT lens 1 i = 1)) ∧ 0 ≤ longT lens i ∧ longT lens i ≤ 15
  | 0 => ⟨Int.le_refl _, Int.le_refl _, fun _ => ⟨rfl, rfl, rfl⟩, fun h => by have h : (0 : Int) = 1 := h; omega, Int.le_refl _, by show (0 : Int) ≤ 15; omega⟩
  | i + 1 => by
    obtain ⟨a1, a2, a3, a4, a5, a6⟩ := used_kr h i
    have hn := h.nn i
    have u : usedT lens (i + 1) = if lens.getD i 0 ≠ 0 then usedT lens i + 1 else usedT lens i := rfl
    have k : kr lens (i + 1) = if 0 < lens.getD i 0 then kr lens i + 2 ^ (15 - (lens.getD i 0).toNat) else kr lens i := rfl
    have l : longT lens (i + 1) = if lens.getD i 0 > longT lens i then lens.getD i 0 else longT lens i := rfl
    have c := cntT_succ lens 1 i
    have hp := two_pow_pos (15 - (lens.getD i 0).toNat)
    by_cases h0 : lens.getD i 0 = 0
    · rw [if_neg (fun hh => hh h0)] at u
      rw [if_neg (by omega)] at k l
      rw [if_neg (by omega)] at c
      rw [u, k, l, c]
      exact ⟨a1, a2, a3, a4, a5, a6⟩
    · rw [if_pos h0] at u
      rw [if_pos (by omega)] at k
      rw [u, k]
      refine ⟨by omega, by omega, fun hh => by omega, fun hh => ?_, ?_, ?_⟩
      · obtain ⟨b1, b2, b3⟩ := a3 (by omega)
        rw [b2, if_pos (by omega)] at l
        rw [l, c, b3]
        split <;> omega
      · rw [l]; split <;> omega
      · rw [l]; split <;> omega
theorem lens_long {lens : List Int} : ∀ i j, j < i → lens.getD j 0 ≤ longT lens i
  | 0, j, h => by omega
  | i + 1, j, h => by
    have l : longT lens (i + 1) = if lens.getD i 0 > longT lens i then lens.getD i 0 else longT lens i := rfl
    rw [l]
    by_cases hj : j = i
    · subst hj; split <;> omega
    · have := lens_long (lens := lens) i j (by omega)
      split <;> omega
/-- A length longer than the longest has no sign. -/
theorem cnt_long {lens : List Int} (h : Lok lens) {n : Nat} (hn : longest lens < n) : cnt lens n = 0 := by
  have : ∀ i, i ≤ lens.length → cntT lens n i = 0 := fun i => by
    induction i with
    | zero => intro _; rfl
    | succ i ih =>
      intro hi
      rw [cntT_succ, if_neg, ih (by omega)]
      have h1 := lens_long (lens := lens) lens.length i (by omega)
      have h2 := (used_kr h lens.length).2.2.2.2
      unfold longest at hn
      omega
  exact this _ (Nat.le_refl _)
/-- The longest length has one. -/
theorem long_mem {lens : List Int} : ∀ i, longT lens i = 0 ∨ ∃ j, j < i ∧ lens.getD j 0 = longT lens i
  | 0 => .inl rfl
  | i + 1 => by
    have l : longT lens (i + 1) = if lens.getD i 0 > longT lens i then lens.getD i 0 else longT lens i := rfl
    rw [l]
    split
    · exact .inr ⟨i, by omega, rfl⟩
    · rcases long_mem (lens := lens) i with h | ⟨j, h1, h2⟩
      · exact .inl h
      · exact .inr ⟨j, by omega, h2⟩
/-- The first code of each length. -/
def fs (f : Nat → Int) : Nat → Int
  | 0 => 0
  | 1 => 0
  | n + 2 => 2 * (fs f (n + 1) + f (n + 1))
def cn (lens : List Int) (n : Nat) : Int := if n = 0 then 0 else (cnt lens n : Int)
theorem fs_bd {f : Nat → Int} (hf : ∀ n, 0 ≤ f n ∧ f n ≤ 288) : ∀ n, 0 ≤ fs f n ∧ fs f n + 576 ≤ 576 * 2 ^ n
  | 0 => by simp [fs]
  | 1 => by simp [fs]
  | n + 2 => by
    have ih := fs_bd hf (n + 1)
    have := hf (n + 1)
    rw [two_pow_succ]
    show 0 ≤ 2 * (fs f (n + 1) + f (n + 1)) ∧ 2 * (fs f (n + 1) + f (n + 1)) + 576 ≤ _
    have hp := two_pow_pos (n + 1)
    omega
theorem cn_bd {lens : List Int} (h : lens.length ≤ 288) (n : Nat) : 0 ≤ cn lens n ∧ cn lens n ≤ 288 := by
  unfold cn
  split
  · omega
  · have := cntT_le lens n lens.length
    unfold cnt
    omega
/-- The signs in the order of their codes, of lengths up to n. -/
def ordT (lens : List Int) : Nat → List Nat
  | 0 => []
  | n + 1 => ordT lens n ++ idxs lens (n + 1)
end Inf
end Go.Proofs.YtjkoafjnmkchdaaGreatDoor

/- What 'append' does to a slice that owns its row; reading and writing a row; bytes to a string. Conditions: sizes. -/
namespace Go.Proofs.YtjkoafjnmkchdaaGreatDoor
namespace Sh
set_option linter.unusedVariables false
set_option linter.unusedSimpArgs false

/-- A slice that owns its row: its elements' cells are xs (k cells an element of type e). -/
def Row (w : World) (s : Slc) (e : TypeId) (k : Nat) (xs : List Value) : Prop :=
  xs.length = s.len * k ∧ (s = ⟨none, 0, 0⟩ ∨ ∃ g cur, s.p = some ⟨g, 0, none⟩ ∧ Blk w g cur e ∧ s.len ≤ s.cap ∧ cur.size = s.cap * k ∧ cur.toList.take (s.len * k) = xs)
/-- Block j is the slice's row. -/
def Slc.own (s : Slc) (j : Nat) : Prop := ∃ a, s.p = some a ∧ a.block = j
theorem Row.nil (w : World) (e : TypeId) (k : Nat) : Row w ⟨none, 0, 0⟩ e k [] := ⟨by simp, .inl rfl⟩
theorem Row.own_lt {w : World} {s : Slc} {e : TypeId} {k : Nat} {xs : List Value} (h : Row w s e k xs) {j : Nat} (hj : s.own j) : j < w.heap.size := by
  obtain ⟨a, ha, rfl⟩ := hj
  rcases h.2 with rfl | ⟨g, cur, hp, hb, _⟩
  · cases ha
  · rw [hp] at ha; cases ha; exact hb.lt
theorem Row.keep {F : Nat → Prop} {w w' : World} {s : Slc} {e : TypeId} {k : Nat} {xs : List Value} (h : Row w s e k xs) (he : Ext F w w') (hn : ∀ j, s.own j → ¬ F j) : Row w' s e k xs := by
  refine ⟨h.1, ?_⟩
  rcases h.2 with h2 | ⟨g, cur, hp, hb, r⟩
  · exact .inl h2
  · exact .inr ⟨g, cur, hp, he.blk hb (hn g ⟨_, hp, rfl⟩), r⟩
theorem Row.new (w : World) (cs : Array Value) (e : TypeId) (k n : Nat) (h : cs.size = n * k) : Row (w.alloc (.cells cs e)) ⟨some ⟨w.heap.size, 0, none⟩, n, n⟩ e k cs.toList :=
  ⟨by simpa using h, .inr ⟨_, cs, rfl, Blk.new w cs e, Nat.le_refl _, h, List.take_of_length_le (by simp [h])⟩⟩
/-- A cell of a row. -/
theorem Row.cell {w : World} {s : Slc} {e : TypeId} {k : Nat} {xs : List Value} (h : Row w s e k xs) {j : Nat} {v : Value} (hj : xs[j]? = some v) : ∃ g, s.p = some ⟨g, 0, none⟩ ∧ w.cell? ⟨g, j, none⟩ = some v := by
  rcases h.2 with h2 | ⟨g, cur, hp, hb, _, _, ht⟩
  · have h1 := h.1
    rw [h2] at h1
    have : xs = [] := List.eq_nil_of_length_eq_zero (by simpa using h1)
    rw [this] at hj; cases hj
  · refine ⟨g, hp, ?_⟩
    rw [hb.cell]
    rw [← ht, List.getElem?_take] at hj
    split at hj
    · simpa using hj
    · cases hj

section
variable {P : Program} {w : World} {s : Slc} {t u ty e : TypeId} {i : TypeInfo} {z : Value} {xs news : List Value} {x : Value} {m : Nat}

/-- **append**: the source is 'x', of which it is known what its cells are. -/
theorem append_any (ht : P.underlying t = some (.slice e)) (hu : (∃ e', P.underlying u = some (.slice e')) ∨ P.underlying u = some .string) (hi : P.info? e = some i) (hz : i.zero = some z) (hzs : z.cells.size = i.size)
    (hlen : Builtin.lenOf x = pure m) (hcells : ∀ w' : World, w'.heap = w.heap → (Builtin.firstCells i.size m x).run P w' = .ok news.toArray w') (hl : news.length = m * i.size)
    (h1 : ∀ v ∈ news, v.oneCell' = true) (own : Row w s e i.size xs) (hb : (s.len + m) * i.bytes ≤ 140737488355328) (h63 : s.len + m ≤ 9223372036854775807) :
    ∃ s' w', RunV P (Builtin.append_ #[t, u] ty #[Slc.v s, x]) w (Slc.v s') w' ∧ Row w' s' e i.size (xs ++ news) ∧ s'.len = s.len + m ∧ Ext s.own w w' ∧ ∀ j, s'.own j → s.own j ∨ w.heap.size ≤ j := by
  have hx1 := own.1
  have hlenr : (xs ++ news).length = (s.len + m) * i.size := by rw [List.length_append, hx1, hl, Nat.add_mul]
  -- a new row
  have grown : ∀ (c : Nat), Row (w.drew.alloc (.cells (xs.toArray ++ news.toArray ++ Builtin.zeroCells z.cells (grownCap w (s.len + m) c e - (s.len + m))) e))
      ⟨some ⟨w.heap.size, 0, none⟩, s.len + m, grownCap w (s.len + m) c e⟩ e i.size (xs ++ news) := by
    intro c
    have hge := grownCap_ge w (s.len + m) c e
    refine ⟨hlenr, .inr ⟨_, _, rfl, Blk.new w.drew _ e, hge, ?_, ?_⟩⟩
    · simp only [Array.size_append, List.size_toArray, size_zeroCells, hzs, hx1, hl, ← Nat.add_mul]
      congr 1
      omega
    · simp only [Array.toList_append]
      rw [← hlenr]
      exact List.take_left
  have hfits : ∀ c, c < s.len + m → Builtin.nextslicecap (s.len + m) c * i.bytes ≤ 281474976710656 := fun c hc => growslice_fits hc hb
  have h63' : ¬ (((s.len + m : Nat) : Int) > IntKind.i64.max) := by
    have : IntKind.i64.max = 9223372036854775807 := by decide
    omega
  have hd : w.drew.heap = w.heap := rfl
  rcases own.2 with rfl | ⟨g, cur, hp, hg, hle, hsz, htk⟩
  · -- the slice is nil
    have hx : xs = [] := List.eq_nil_of_length_eq_zero (by simpa using hx1)
    subst hx
    by_cases hm : m = 0
    · subst hm
      have hn : news = [] := List.eq_nil_of_length_eq_zero (by simpa using hl)
      subst hn
      refine ⟨⟨none, 0, 0⟩, w, ?_, Row.nil w e i.size, rfl, Ext.refl _ _, fun j hj => .inl hj⟩
      have hc := hcells w rfl
      rcases hu with ⟨e', hu⟩ | hu <;>
        simp [RunV, Slc.v, Builtin.append_, run_underlying ht, run_underlying hu, sizeOf, typeInfo, hi, hlen, hc]
    · refine ⟨_, _, ?_, grown 0, rfl, ((Ext.refl _ w).drew).alloc _, fun j hj => ?_⟩
      · have hc := hcells w.drew hd
        have hn : ¬ (0 + m ≤ 0) := by omega
        have hf := hfits 0 (by simp; omega)
        simp only [Nat.zero_add] at hf h63'
        have hf' : ¬ (281474976710656 < Builtin.nextslicecap m 0 * i.bytes) := by omega
        have h6 : ¬ (9223372036854775807 < (m : Int)) := by simp only [Nat.zero_add] at h63; omega
        rcases hu with ⟨e', hu⟩ | hu <;>
          simp [RunV, Slc.v, Builtin.append_, run_underlying ht, run_underlying hu, sizeOf, typeInfo, zeroValue, hi, hz, hlen, hm, h6, hf', Question.forced, run_firstCells_none, hc, newRow, grownCap]
      · obtain ⟨a, ha, rfl⟩ := hj
        cases ha
        exact .inr (Nat.le_refl _)
  · obtain ⟨p, len, cap⟩ := s
    simp only at hp hle hsz htk hx1 hlenr hb h63 h63' hfits grown
    subst hp
    by_cases hroom : len + m ≤ cap
    · -- there is room
      have hfit : len * i.size + news.length ≤ cur.size := by rw [hl, hsz, ← Nat.add_mul]; exact Nat.mul_le_mul_right _ hroom
      have hst := run_storeCells_at P g (len * i.size) e news 0 cur w hg (by simpa using hfit) h1
      simp only [Nat.add_zero] at hst
      have hc := hcells w rfl
      refine ⟨⟨some ⟨g, 0, none⟩, len + m, cap⟩, w.setRow g (cur.toList.take (len * i.size) ++ news ++ cur.toList.drop (len * i.size + news.length)).toArray, ?_, ⟨hlenr, .inr ⟨g, (cur.toList.take (len * i.size) ++ news ++ cur.toList.drop (len * i.size + news.length)).toArray, rfl, setRow_heap w g cur _ e _ hg, hroom, ?_, ?_⟩⟩, rfl, ⟨rfl, rfl, rfl, by simp [World.setRow], fun k _ hk => setRow_other w g k _ (fun e => hk ⟨_, rfl, e.symm⟩)⟩, fun j hj => .inl hj⟩
      · rcases hu with ⟨e', hu⟩ | hu <;>
          simp [RunV, Slc.v, Builtin.append_, run_underlying ht, run_underlying hu, sizeOf, typeInfo, hi, hlen, hroom, hc, hst]
      · simp only [List.size_toArray, List.length_append, List.length_take, List.length_drop, Array.length_toList]
        omega
      · rw [htk]
        show List.take ((len + m) * i.size) _ = _
        rw [← hlenr]
        exact List.take_left
    · -- it must grow
      refine ⟨_, _, ?_, grown cap, rfl, ((Ext.refl _ w).drew).alloc _, fun j hj => ?_⟩
      · have hc := hcells w.drew hd
        have hf := hfits cap (by omega)
        have hf' : ¬ (281474976710656 < Builtin.nextslicecap (len + m) cap * i.bytes) := by omega
        have h6 : ¬ (9223372036854775807 < ((len : Int) + (m : Int))) := by omega
        have holds : ∀ j v, xs[j]? = some v → w.drew.cell? ((⟨g, 0, none⟩ : Addr).add j) = some v := fun j v hj => by
          obtain ⟨g', hg', h⟩ := own.cell hj
          cases hg'
          simpa using h
        have hfo := run_firstCells_some (P := P) w.drew i.size len ⟨g, 0, none⟩ len cap xs hx1 holds
        rcases hu with ⟨e', hu⟩ | hu <;>
          simp [RunV, Slc.v, Builtin.append_, run_underlying ht, run_underlying hu, sizeOf, typeInfo, zeroValue, hi, hz, hlen, hroom, h6, hf', Question.forced, hfo, hc, newRow, grownCap] <;>
          (congr 2; apply Array.ext'; simp [List.append_assoc])
      · obtain ⟨a, ha, rfl⟩ := hj
        cases ha
        exact .inr (Nat.le_refl _)
end
end Sh
end Go.Proofs.YtjkoafjnmkchdaaGreatDoor

/- Rows of elements of any type: append, make, element by element. Conditions: sizes. -/
namespace Go.Proofs.YtjkoafjnmkchdaaGreatDoor
namespace Sh
set_option linter.unusedVariables false
set_option linter.unusedSimpArgs false

/-- A slice type t of elements e: k cells and B bytes each, zero value zs. -/
structure El (P : Program) (t e : TypeId) (k B : Nat) (z : Value) : Prop where
  und : P.underlying t = some (.slice e)
  size : (P.info? e).map (·.size) = some k
  bytes : (P.info? e).map (·.bytes) = some B
  zero : (P.info? e).bind (·.zero) = some z
  cells : z.cells.size = k
/-- The cells of a slice's elements can be read. -/
def VRow (w : World) (s : Slc) (k : Nat) (ys : List Value) : Prop := ys.length = s.len * k ∧ ∀ j v, ys[j]? = some v → ∃ a, s.p = some a ∧ w.cell? (a.add j) = some v
theorem VRow.keep {w w' : World} {s : Slc} {k : Nat} {ys : List Value} (h : VRow w s k ys) (he : Ext (fun _ => False) w w') : VRow w' s k ys :=
  ⟨h.1, fun j v hj => by obtain ⟨a, ha, hc⟩ := h.2 j v hj; exact ⟨a, ha, he.cell_same hc⟩⟩
theorem add_block (a : Addr) (n : Nat) : (a.add n).block = a.block := by unfold Addr.add; split <;> (try split) <;> rfl
theorem VRow.keepF {F : Nat → Prop} {w w' : World} {s : Slc} {k : Nat} {ys : List Value} (h : VRow w s k ys) (he : Ext F w w') (hF : ∀ j, s.own j → ¬ F j) : VRow w' s k ys :=
  ⟨h.1, fun j v hj => by
    obtain ⟨a, ha, hc⟩ := h.2 j v hj
    refine ⟨a, ha, ?_⟩
    rw [he.cell (cell_lt' hc) (by rw [add_block]; exact hF _ ⟨a, ha, rfl⟩)]
    exact hc⟩
theorem Row.view {w : World} {s : Slc} {e : TypeId} {k : Nat} {xs : List Value} (h : Row w s e k xs) : VRow w s k xs :=
  ⟨h.1, fun j v hj => by
    obtain ⟨g, hg, hc⟩ := h.cell hj
    exact ⟨_, hg, by rw [add_lit, Nat.zero_add]; exact hc⟩⟩
/-- A row that has just been written. -/
theorem VRow.of {w : World} {b n k : Nat} {cs : List Value} {t : TypeId} (hb : Blk w b cs.toArray t) (hn : cs.length = n * k) : VRow w ⟨some ⟨b, 0, none⟩, n, n⟩ k cs :=
  ⟨hn, fun j v hj => ⟨_, rfl, by rw [add_lit, hb.cell, Nat.zero_add]; simpa using hj⟩⟩
section
variable {P : Program} {t e : TypeId} {k B : Nat} {z : Value} {w : World} {s s2 : Slc} {ty : TypeId} {xs ys : List Value}
theorem El.info (h : El P t e k B z) : ∃ i, P.info? e = some i ∧ i.size = k ∧ i.bytes = B ∧ i.zero = some z := by
  cases hi : P.info? e with
  | none => have := h.size; rw [hi] at this; cases this
  | some i =>
    have h1 := h.size; have h2 := h.bytes; have h3 := h.zero
    rw [hi] at h1 h2 h3
    exact ⟨i, rfl, by simpa using h1, by simpa using h2, by simpa using h3⟩
/-- append(s, s2...). -/
theorem El.app (h : El P t e k B z) (own : Row w s e k xs) (h2 : VRow w s2 k ys) (h1 : ∀ v ∈ ys, v.oneCell' = true) (hb : (s.len + s2.len) * B ≤ 140737488355328) (h63 : s.len + s2.len ≤ 9223372036854775807) :
    ∃ s' w', RunV P (Builtin.append_ #[t, t] ty #[Slc.v s, Slc.v s2]) w (Slc.v s') w' ∧ Row w' s' e k (xs ++ ys) ∧ s'.len = s.len + s2.len ∧ Ext s.own w w' ∧ ∀ j, s'.own j → s.own j ∨ w.heap.size ≤ j := by
  obtain ⟨i, hi, rfl, rfl, hz⟩ := h.info
  refine append_any (P := P) (w := w) (s := s) (t := t) (u := t) (ty := ty) (e := e) (i := i) (z := z) (xs := xs) (news := ys) (x := Slc.v s2) (m := s2.len) h.und (.inl ⟨_, h.und⟩) hi hz h.cells rfl (fun w' hw' => ?_) h2.1 h1 own hb h63
  obtain ⟨p, len, cap⟩ := s2
  cases p with
  | none =>
    have hy : ys = [] := by
      cases ys with
      | nil => rfl
      | cons y r =>
        obtain ⟨a, ha, _⟩ := h2.2 0 y rfl
        cases ha
    subst hy
    have hl := h2.1
    simp only [List.length_nil] at hl
    exact run_firstCells_none (P := P) (w := w') _ _ _ _
  | some a =>
    refine run_firstCells_some w' i.size len a len cap ys h2.1 fun j v hj => ?_
    obtain ⟨a', ha, hc⟩ := h2.2 j v hj
    cases ha
    unfold World.cell? at hc ⊢
    rw [hw']
    exact hc
/-- append(s, x). -/
theorem El.app1 (h : El P t e k B z) {g : Nat} (own : Row w s e k xs) (hg : Blk w g ys.toArray e) (hl : ys.length = k) (h1 : ∀ v ∈ ys, v.oneCell' = true) (hb : (s.len + 1) * B ≤ 140737488355328) (h63 : s.len + 1 ≤ 9223372036854775807) :
    ∃ s' w', RunV P (Builtin.append_ #[t, t] ty #[Slc.v s, Slc.v ⟨some ⟨g, 0, none⟩, 1, 1⟩]) w (Slc.v s') w' ∧ Row w' s' e k (xs ++ ys) ∧ s'.len = s.len + 1 ∧ Ext s.own w w' ∧ ∀ j, s'.own j → s.own j ∨ w.heap.size ≤ j :=
  h.app (s2 := ⟨some ⟨g, 0, none⟩, 1, 1⟩) own (VRow.of hg (by omega)) h1 hb h63
theorem flat_get {zs : List Value} (hk : zs.length = k) : ∀ (c j : Nat), ((List.replicate c zs).flatten)[j]? = if j < c * k then zs[j % k]? else none
  | 0, j => by simp
  | c + 1, j => by
    rw [List.replicate_succ, List.flatten_cons]
    by_cases hj : j < k
    · rw [List.getElem?_append_left (by omega), if_pos (by rw [Nat.add_mul]; omega), Nat.mod_eq_of_lt hj]
    · rw [List.getElem?_append_right (by omega), flat_get hk c (j - zs.length), hk, Nat.add_mul, Nat.one_mul]
      by_cases h2 : j < c * k + k
      · have hm : j % k = (j - k) % k := by
          rw [← Nat.add_mod_right (j - k) k, Nat.sub_add_cancel (by omega)]
        rw [if_pos (by omega), if_pos h2, hm]
      · rw [if_neg (by omega), if_neg h2]
theorem made_list {zs : List Value} (hz : z.cells.toList = zs) (hk : zs.length = k) (c : Nat) : (madeCells z.cells (c * k)).toList = (List.replicate c zs).flatten := by
  have hsz : z.cells.size = k := by rw [← Array.length_toList, hz, hk]
  apply List.ext_getElem?
  intro j
  rw [flat_get hk]
  by_cases hj : j < c * k
  · have hk0 : 0 < k := by
      rcases Nat.eq_zero_or_pos k with h | h
      · subst h; omega
      · exact h
    have hm : j % k < k := Nat.mod_lt _ hk0
    rw [if_pos hj]
    unfold madeCells
    simp only [Array.toList_map, Array.toList_range, List.getElem?_map, List.getElem?_range hj, Option.map_some, hsz]
    rw [← hz, Array.getElem?_toList]
    have : j % k < z.cells.size := by omega
    rw [Array.getElem?_eq_getElem this]
    simp [Array.getElem!_eq_getD, Array.getD, this]
  · rw [if_neg hj, List.getElem?_eq_none]
    rw [Array.length_toList, size_madeCells]
    omega
/-- make. -/
theorem El.make (h : El P t e k B z) {zs : List Value} (hz : z.cells.toList = zs) (w : World) (n : Nat) (hb : B * n ≤ 281474976710656) (h63 : n ≤ 9223372036854775807) :
    ∃ w', RunV P (Instr.makeSlice t (.int .i64 (n : Int)) (.int .i64 (n : Int))) w (Slc.v ⟨some ⟨w.heap.size, 0, none⟩, n, n⟩) w' ∧ w' = w.alloc (.cells ((List.replicate n zs).flatten).toArray e) := by
  obtain ⟨i, hi, rfl, rfl, hzi⟩ := h.info
  have hr := run_make (P := P) w t e i z h.und hi hzi .i64 .i64 n n (by omega) (by omega) (by have h : ((i.bytes * n : Nat) : Int) ≤ 281474976710656 := (by omega); rwa [Int.natCast_mul] at h) (by omega)
  simp only [Int.toNat_natCast] at hr
  have hl := made_list (k := i.size) hz (by rw [← hz, Array.length_toList]; exact h.cells) n
  refine ⟨_, hr, ?_⟩
  rw [← hl]
end
/-- One cell after another of an element is stored. -/
def StL (b : Nat) : Nat → List Value → World → (World → Prop) → Prop
  | _, [], w, K => K w
  | o, v :: vs, w, K => St w ⟨b, o, none⟩ v fun w' => StL b (o + 1) vs w' K
theorem set_at {pre post : List Value} {c v : Value} : (pre ++ c :: post).set pre.length v = pre ++ v :: post := by
  rw [List.set_append_right _ _ (Nat.le_refl _), Nat.sub_self]
  rfl
theorem Hn.stL {w0 : World} {L : List (Nat × List Value × TypeId)} {b : Nat} {t : TypeId} {i : Nat} {K : World → Prop} : ∀ (vs zs pre post : List Value) (o : Nat) (w : World), Hn w0 w L → L[i]? = some (b, pre ++ (zs ++ post), t) → pre.length = o → zs.length = vs.length →
    (∀ w2, Hn w0 w2 (L.set i (b, pre ++ (vs ++ post), t)) → K w2) → StL b o vs w K
  | [], zs, pre, post, o, w, h, hi, ho, hz, k => by
    have : zs = [] := List.eq_nil_of_length_eq_zero hz
    subst this
    have e : L.set i (b, pre ++ ([] ++ post), t) = L := by
      apply List.ext_getElem?
      intro j
      rw [List.getElem?_set]
      split
      · rename_i hij
        subst hij
        rw [if_pos (List.getElem?_eq_some_iff.1 hi).1, hi]
      · rfl
    exact k w (by rw [e]; exact h)
  | v :: vs, [], pre, post, o, w, h, hi, ho, hz, k => by cases hz
  | v :: vs, z :: zs, pre, post, o, w, h, hi, ho, hz, k => by
    refine h.st i hi (by rw [← ho]; simp) fun w2 h2 => ?_
    have e : (pre ++ (z :: zs ++ post)).set o v = (pre ++ [v]) ++ (zs ++ post) := by
      rw [← ho, List.cons_append, set_at]
      simp
    rw [e] at h2
    have hlt : i < L.length := (List.getElem?_eq_some_iff.1 hi).1
    refine Hn.stL vs zs (pre ++ [v]) post (o + 1) w2 h2 (by rw [List.getElem?_set_self hlt]) (by simp [ho]) (by simpa using hz) fun w3 h3 => k w3 ?_
    rw [List.set_set] at h3
    simpa using h3
end Sh
end Go.Proofs.YtjkoafjnmkchdaaGreatDoor

/- What an argument's reading tells: its cells, kind by kind. No condition. -/
namespace Go.Proofs.YtjkoafjnmkchdaaGreatDoor
namespace Sh
set_option linter.unusedVariables false

/-- The cells of a value of type t, read to depth n. -/
def RdC (P : Program) (w : World) : Nat → TypeId → List Value → Prop
  | 0, _, _ => False
  | n + 1, t, cs => match P.underlying t with
    | some (.int k) => ∃ x, cs = [.int k x] ∧ (Lit.int k x).wf = true
    | some .bool => ∃ b, cs = [.bool b]
    | some .string => ∃ s : ByteArray, cs = [.string s] ∧ s.size ≤ maxLen
    | some (.slice e) => ∃ s : Slc, cs = [Slc.v s] ∧ (s = ⟨none, 0, 0⟩ ∨ ∃ a, s.p = some a ∧ s.len ≤ s.cap ∧ s.cap ≤ maxLen ∧
        ∀ i, i < s.len → ∃ cs', cs'.length = P.cellsOf e ∧ (∀ j, j < P.cellsOf e → w.cell? (a.add (i * P.cellsOf e + j)) = cs'[j]?) ∧ RdC P w n e cs')
    | some (.struct fs) => cs.length = P.cellsOf t ∧ ∀ (i : Nat) (f : Field), fs[i]? = some f → RdC P w n f.type ((cs.drop f.offset).take (P.cellsOf f.type))
    | some (.array m e) => cs.length = P.cellsOf t ∧ ∀ i, i < m → RdC P w n e ((cs.drop (i * P.cellsOf e)).take (P.cellsOf e))
    | some (.pointer e) => ∃ p : Option Addr, cs = [.pointer p] ∧ ∀ a, p = some a → ∃ cs', cs'.length = P.cellsOf e ∧ (∀ j, j < P.cellsOf e → w.cell? (a.add j) = cs'[j]?) ∧ RdC P w n e cs'
    | _ => True

theorem add_add' (a : Addr) (i j : Nat) : (a.add i).add j = a.add (i + j) := by
  unfold Addr.add
  split
  · rename_i h; subst h; simp
  · split
    · rename_i h; subst h; simp_all
    · split
      · omega
      · simp [Nat.add_assoc]
theorem rdC_of {H : Type} {enc : TypeId × Value → H} {P : Program} {w : World} {spare : Nat → Bool} {held : Bool} : ∀ (n : Nat) (t : TypeId) (cs : List Value) (x : DataW H × List MemPlace),
    DataW.trod enc P w 0 spare held n t cs = some x → RdC P w n t cs
  | 0, t, cs, x, h => by simp [DataW.trod] at h
  | n + 1, t, cs, x, h => by
    unfold RdC
    split
    · rename_i k ht
      obtain ⟨y, h1, _, h2⟩ := DataW.trod_int ht h
      exact ⟨y, h1, h2⟩
    · rename_i ht
      obtain ⟨y, h1, _⟩ := DataW.trod_bool ht h
      exact ⟨y, h1⟩
    · rename_i ht
      obtain ⟨y, h1, _, h2⟩ := DataW.trod_string ht h
      exact ⟨y, h1, h2⟩
    · rename_i e ht
      rcases DataW.trod_slice ht h with ⟨h0, _⟩ | ⟨a, len, cap, elems, rest, m, hm, hcs, _, _, hl, hc, hel, hi, _⟩
      · exact ⟨⟨none, 0, 0⟩, h0, .inl rfl⟩
      · cases hm
        refine ⟨⟨some a, len, cap⟩, hcs, .inr ⟨a, rfl, hl, hc, fun i hil => ?_⟩⟩
        have hg : elems[i]? = some (elems[i]'(by rw [hel]; exact hil)) := List.getElem?_eq_getElem _
        have h2 := (hi i hil).trans hg
        obtain ⟨cs', h3, h4⟩ := Option.bind_eq_some_iff.1 h2
        obtain ⟨_, h5, h6⟩ := World.cells?_some h3
        exact ⟨cs', h5, fun j hj => by rw [← add_add']; exact h6 j hj, rdC_of n e cs' _ h4⟩
    · rename_i fs ht
      obtain ⟨xs, m, hm, _, hl, hxl, hf⟩ := DataW.trod_struct ht h
      cases hm
      refine ⟨hl, fun i f hfi => ?_⟩
      have hlt : i < fs.size := (Array.getElem?_eq_some_iff.1 hfi).1
      exact rdC_of n f.type _ _ ((hf i f hfi).trans (List.getElem?_eq_getElem (by rw [hxl]; exact hlt)))
    · rename_i m e ht
      obtain ⟨xs, m', hm, _, hl, hxl, hf⟩ := DataW.trod_array ht h
      cases hm
      exact ⟨hl, fun i hi => rdC_of n e _ _ ((hf i hi).trans (List.getElem?_eq_getElem (by rw [hxl]; exact hi)))⟩
    · rename_i e ht
      rcases DataW.trod_pointer ht h with ⟨h0, _⟩ | ⟨a, cs', y, m, hm, hcs, _, hc, hy⟩
      · exact ⟨none, h0, fun a ha => by cases ha⟩
      · cases hm
        refine ⟨some a, hcs, fun a' ha => ?_⟩
        cases ha
        obtain ⟨_, h5, h6⟩ := World.cells?_some hc
        exact ⟨cs', h5, h6, rdC_of n e cs' y hy⟩
    · trivial
theorem rdC_Trod {H : Type} {enc : TypeId × Value → H} {P : Program} {w : World} {spare : Nat → Bool} {held : Bool} {t : TypeId} {v : Value} {d : DataW H} {ps : List MemPlace}
    (h : DataW.Trod enc P w 0 spare held t v d ps) : ∃ n, RdC P w n t v.cells.toList := by
  obtain ⟨n, hn⟩ := h
  exact ⟨n, rdC_of n t _ _ hn⟩
section
variable {P : Program} {w : World} {n : Nat} {t : TypeId} {cs : List Value}
theorem rdC_int {k : IntKind} (hu : P.underlying t = some (.int k)) (h : RdC P w n t cs) : ∃ x, cs = [.int k x] ∧ (Lit.int k x).wf = true := by
  cases n with
  | zero => exact h.elim
  | succ n => unfold RdC at h; rw [hu] at h; exact h
end
/-! ### The cells of a struct or an array -/

def isLeaf : TypeDesc → Bool
  | .int _ | .bool | .string | .slice _ | .pointer _ => true
  | _ => false
/-- The type of cell i of a value of type t. -/
def leafAt (P : Program) : Nat → TypeId → Nat → Option TypeId
  | 0, _, _ => none
  | k + 1, t, i => match P.underlying t with
    | some (.struct fs) => match fs.toList.find? (fun f => Nat.ble f.offset i && Nat.blt i (f.offset + P.cellsOf f.type)) with
      | some f => leafAt P k f.type (i - f.offset)
      | none => none
    | some (.array m e) => match Nat.blt (i / P.cellsOf e) m && Nat.blt (i % P.cellsOf e) (P.cellsOf e) with
      | true => leafAt P k e (i % P.cellsOf e)
      | false => none
    | some d => match isLeaf d, i with
      | true, 0 => some t
      | _, _ => none
    | none => none
theorem take_drop_one {α : Type} (l : List α) {o s j : Nat} (hj : j < s) : (((l.drop o).take s).drop j).take 1 = (l.drop (o + j)).take 1 := by
  rw [List.drop_take, List.take_take, List.drop_drop, Nat.min_eq_left (by omega)]
theorem rdC_one {P : Program} {w : World} {n : Nat} {t : TypeId} {cs : List Value} {d : TypeDesc} (hu : P.underlying t = some d) (hd : isLeaf d = true) (h : RdC P w n t cs) : (cs.drop 0).take 1 = cs := by
  cases n with
  | zero => exact h.elim
  | succ n =>
    unfold RdC at h
    rw [hu] at h
    cases d <;> simp only [isLeaf, Bool.false_eq_true] at hd
    all_goals
      obtain ⟨x, h1⟩ := h
      first
        | (subst h1; rfl)
        | (rw [h1.1]; rfl)
theorem rdC_leaf {P : Program} {w : World} : ∀ (k n : Nat) (t : TypeId) (cs : List Value) (i : Nat) (u : TypeId), RdC P w n t cs → leafAt P k t i = some u → ∃ m, RdC P w m u ((cs.drop i).take 1)
  | 0, _, _, _, _, _, _, h => by cases h
  | k + 1, 0, t, cs, i, u, h0, h => h0.elim
  | k + 1, n + 1, t, cs, i, u, h0, h => by
    unfold leafAt at h
    have h1 := h0
    unfold RdC at h1
    split at h
    · rename_i fs hu
      rw [hu] at h1
      split at h
      · rename_i f hf
        obtain ⟨hp, asx, bs, hfs, _⟩ := List.find?_eq_some_iff_append.1 hf
        simp only [Bool.and_eq_true] at hp
        have h2 := Nat.le_of_ble_eq_true hp.1
        have h3 : i < f.offset + P.cellsOf f.type := Nat.le_of_ble_eq_true hp.2
        have hget : fs[asx.length]? = some f := by
          have : fs.toList[asx.length]? = some f := by rw [hfs]; simp
          simpa using this
        obtain ⟨m, hm⟩ := rdC_leaf k n f.type _ (i - f.offset) u (h1.2 _ f hget) h
        rw [take_drop_one _ (by omega), show f.offset + (i - f.offset) = i by omega] at hm
        exact ⟨m, hm⟩
      · cases h
    · rename_i m e hu
      rw [hu] at h1
      split at h
      · rename_i hb
        simp only [Bool.and_eq_true] at hb
        have h2 : i / P.cellsOf e < m := Nat.le_of_ble_eq_true hb.1
        have h3 : i % P.cellsOf e < P.cellsOf e := Nat.le_of_ble_eq_true hb.2
        obtain ⟨m', hm⟩ := rdC_leaf k n e _ (i % P.cellsOf e) u (h1.2 _ h2) h
        rw [take_drop_one _ h3, Nat.div_add_mod' i (P.cellsOf e)] at hm
        exact ⟨m', hm⟩
      · cases h
    · rename_i d _ _ hu
      split at h
      · rename_i hd
        cases h
        exact ⟨n + 1, by rw [rdC_one hu hd h0]; exact h0⟩
      · cases h
    · cases h
theorem take_one {α : Type} {l : List α} {i : Nat} {c : α} (h : l[i]? = some c) : (l.drop i).take 1 = [c] := by
  rw [List.getElem?_eq_some_iff] at h
  obtain ⟨hi, rfl⟩ := h
  rw [List.drop_eq_getElem_cons hi]
  rfl
theorem rdC_len {P : Program} {w : World} {n : Nat} {t : TypeId} {cs : List Value} (ha : isAggD (P.underlying t) = true) (h : RdC P w n t cs) : cs.length = P.cellsOf t := by
  cases n with
  | zero => exact h.elim
  | succ n =>
    unfold RdC at h
    unfold isAggD at ha
    split at ha
    · rename_i fs hu
      rw [hu] at h
      exact h.1
    · rename_i m e hu
      rw [hu] at h
      exact h.1
    · cases ha
section
variable {P : Program} {w : World} {n k i : Nat} {t u : TypeId} {cs : List Value} {c : Value}
theorem leaf_int {q : IntKind} (hl : leafAt P k t i = some u) (hu : P.underlying u = some (.int q)) (h : RdC P w n t cs) (hc : cs[i]? = some c) : ∃ x, c = .int q x ∧ (Lit.int q x).wf = true := by
  obtain ⟨m, hm⟩ := rdC_leaf k n t cs i u h hl
  obtain ⟨x, h1, h2⟩ := rdC_int hu hm
  refine ⟨x, ?_, h2⟩
  rw [take_one hc] at h1
  simpa using h1
end
theorem wf_i64 {n : Int} (h : (Lit.int .i64 n).wf = true) : -9223372036854775808 ≤ n ∧ n ≤ 9223372036854775807 := by
  simpa [Lit.wf, show IntKind.i64.min = -9223372036854775808 by decide, show IntKind.i64.max = 9223372036854775807 by decide] using h
theorem wf_u8 {n : Int} (h : (Lit.int .u8 n).wf = true) : 0 ≤ n ∧ n ≤ 255 := by
  simpa [Lit.wf, show IntKind.u8.min = 0 by decide, show IntKind.u8.max = 255 by decide] using h
/-- A struct or an array as an argument. -/
theorem rdC_arg_agg {H : Type} {enc : TypeId × Value → H} {P : Program} {W : World} {spare : Nat → Bool} {held : Bool} {t : TypeId} {v : Value} {d : DataW H} {ps : List MemPlace} {rr : Reach} {b0 : Nat}
    (ha : isAggD (P.underlying t) = true) (h0 : Value.okWide P W rr b0 t v) (h : DataW.Trod enc P W 0 spare held t v d ps) : ∃ cs : List Value, v = .agg cs.toArray ∧ cs.length = P.cellsOf t ∧ ∃ n, RdC P W n t cs := by
  obtain ⟨n, hn⟩ := rdC_Trod h
  have hv : ∃ cs : Array Value, v = .agg cs := by
    unfold isAggD at ha
    split at ha
    · rename_i fs hu
      simp only [Value.okWide, hu] at h0
      obtain ⟨cs, h1, _⟩ := h0
      exact ⟨cs, h1⟩
    · rename_i m e hu
      simp only [Value.okWide, hu] at h0
      obtain ⟨cs, h1, _⟩ := h0
      exact ⟨cs, h1⟩
    · cases ha
  obtain ⟨cs, rfl⟩ := hv
  exact ⟨cs.toList, by simp, rdC_len ha hn, n, hn⟩
end Sh
end Go.Proofs.YtjkoafjnmkchdaaGreatDoor
