/- The formula of 'Sh' implies the model's own account of the code. No condition. -/
import Derived.Test.YtpkadliieplblaaDoorSh
namespace Go.Proofs.YtpkadliieplblaaDoor
namespace Sh

/-! ### Types -/

theorem Ty1.get?_v : ∀ (t : Ty1) (v : Value) (x : t.T), t.get? v = some x → t.v x = v
  | .int k, v, x, h => by
    cases v <;> simp only [Ty1.get?] at h <;> try (cases h; done)
    rename_i k' n
    by_cases e : k' = k
    · rw [if_pos e] at h; cases h; subst e; rfl
    · rw [if_neg e] at h; cases h
  | .bool, v, x, h => by cases v <;> simp only [Ty1.get?] at h <;> cases h <;> rfl
  | .str, v, x, h => by cases v <;> simp only [Ty1.get?] at h <;> cases h <;> rfl
  | .ptr, v, x, h => by cases v <;> simp only [Ty1.get?] at h <;> cases h <;> rfl
  | .addr, v, x, h => by
    cases v with
    | pointer p =>
      cases p with
      | none => cases h
      | some a => cases h; rfl
    | _ => cases h
  | .slc, v, x, h => by cases v <;> simp only [Ty1.get?] at h <;> cases h <;> rfl
  | .map, v, x, h => by cases v <;> simp only [Ty1.get?] at h <;> cases h <;> rfl
  | .raw, v, x, h => by simp only [Ty1.get?] at h; cases h; rfl

theorem Sig.get?_cells (ts : List Ty1) : ∀ (vs : List Value) (x : Sig ts), Sig.get? ts vs = some x → Sig.cells ts x = vs := by
  induction ts with
  | nil => intro vs x h; cases vs with
    | nil => rfl
    | cons _ _ => cases h
  | cons t ts ih => cases ts with
    | nil => intro vs x h; cases vs with
      | nil => cases h
      | cons v vs => cases vs with
        | nil => exact congrArg (fun y => [y]) (Ty1.get?_v _ _ _ h)
        | cons _ _ => cases h
    | cons u r => intro vs x h; cases vs with
      | nil => cases h
      | cons v vs =>
        obtain ⟨a, ha, h1⟩ := Option.bind_eq_some_iff.1 h
        obtain ⟨b, hb, h2⟩ := Option.bind_eq_some_iff.1 h1
        rw [← Option.some.inj h2]
        show t.v a :: Sig.cells (u :: r) b = v :: vs
        rw [Ty1.get?_v _ _ _ ha, ih _ _ hb]

theorem Ty.get?_v (t : Ty) (v : Value) (x : t.T) (h : t.get? v = some x) : t.v x = v := by
  cases t with
  | one t => exact Ty1.get?_v _ _ _ h
  | agg ts =>
    cases v with
    | agg cs =>
      show Value.agg (Sig.cells ts x).toArray = _
      rw [Sig.get?_cells _ _ _ h]
    | _ => exact nomatch (show (none : Option (Sig ts)) = some x from h)

theorem Sg.get?_vals (ts : List Ty) : ∀ (vs : List Value) (x : Sg ts), Sg.get? ts vs = some x → Sg.vals ts x = vs := by
  induction ts with
  | nil => intro vs x h; cases vs with
    | nil => rfl
    | cons _ _ => cases h
  | cons t ts ih => cases ts with
    | nil => intro vs x h; cases vs with
      | nil => cases h
      | cons v vs => cases vs with
        | nil => exact congrArg (fun y => [y]) (Ty.get?_v _ _ _ h)
        | cons _ _ => cases h
    | cons u r => intro vs x h; cases vs with
      | nil => cases h
      | cons v vs =>
        obtain ⟨a, ha, h1⟩ := Option.bind_eq_some_iff.1 h
        obtain ⟨b, hb, h2⟩ := Option.bind_eq_some_iff.1 h1
        rw [← Option.some.inj h2]
        show t.v a :: Sg.vals (u :: r) b = v :: vs
        rw [Ty.get?_v _ _ _ ha, ih _ _ hb]

theorem Br_elim {b : Bool} {A B : Prop} (h : Br b A B) : (b = true ∧ A) ∨ (b = false ∧ B) := by
  cases b
  · exact .inr ⟨rfl, h⟩
  · exact .inl ⟨rfl, h⟩
theorem Br_ite (b : Bool) (A B : Prop) : Br b A B = if b = true then A else B := by cases b <;> rfl
theorem beq_eq {a b : Nat} (h : Nat.beq a b = true) : a = b := by simpa using h

/-! ### Slots -/

structure Fits (N : Nat) (E : Env) (a : Act) : Prop where
  size : a.tmps.size = N
  get : ∀ t v, E.get? t = some v → t < N ∧ a.tmps.getD t undef = v

theorem getD_set_eq {α : Type} (xs : Array α) (i : Nat) (v d : α) (h : i < xs.size) : (xs.setIfInBounds i v).getD i d = v := by
  simp [Array.getD, h]
theorem getD_set_ne' {α : Type} (xs : Array α) {i j : Nat} (v d : α) (h : i ≠ j) : (xs.setIfInBounds i v).getD j d = xs.getD j d := by
  simp only [Array.getD_eq_getD_getElem?, Array.getElem?_setIfInBounds]
  rw [if_neg h]

theorem Fits.cons {N : Nat} {E : Env} {a : Act} {d : Nat} {v : Value} (h : Fits N E a) (hd : d < N) (hv : a.tmps.getD d undef = v) : Fits N ((d, v) :: E) a := by
  refine ⟨h.size, fun t u hu => ?_⟩
  simp only [Env.get?] at hu
  split at hu
  · rename_i hb
    cases hu
    rw [← beq_eq hb]; exact ⟨hd, hv⟩
  · exact h.get t u hu
theorem Fits.put {N : Nat} {E : Env} {a : Act} {d : Option Tmp} {v : Value} (h : Fits N E a) (hd : ∀ t, d = some t → t < N) : Fits N (E.put d v) (a.put d v) := by
  cases d with
  | none => exact h
  | some t =>
    refine ⟨by simp [Act.put, h.size], fun u x hx => ?_⟩
    simp only [Env.put, Env.get?] at hx
    split at hx
    · rename_i hb
      cases hx
      have := beq_eq hb
      subst this
      exact ⟨hd _ rfl, getD_set_eq _ _ _ _ (by rw [h.size]; exact hd _ rfl)⟩
    · rename_i hb
      have hne : t ≠ u := fun e => by subst e; simp at hb
      exact ⟨(h.get u x hx).1, by simp only [Act.put]; rw [getD_set_ne' _ _ _ hne]; exact (h.get u x hx).2⟩
theorem put_defers {a : Act} {d : Option Tmp} {v : Value} : (a.put d v).defers = a.defers := by
  cases d <;> rfl
theorem put_frame {a : Act} {d : Option Tmp} {v : Value} {t : Nat} (h : d ≠ some t) : (a.put d v).tmps.getD t undef = a.tmps.getD t undef := by
  cases d with
  | none => rfl
  | some u => simp only [Act.put]; rw [getD_set_ne' _ _ _ (fun e => h (by rw [e]))]
theorem Fits.rho {N : Nat} {E : Env} {a : Act} (h : Fits N E a) {x : Operand} (hx : E.has x = true) : a.eval x = E.rho x := by
  cases x with
  | tmp t =>
    simp only [Env.has, Option.isSome_iff_exists] at hx
    obtain ⟨v, hv⟩ := hx
    simp only [Act.eval, Env.rho, hv]
    exact (h.get t v hv).2
  | _ => rfl
theorem hasAll_exec {N : Nat} {E : Env} {a : Act} (h : Fits N E a) {o : Oper} (hx : hasAll E o.op = true) : execOp a.eval o = execOp E.rho o := by
  simp only [hasAll, Bool.and_eq_true, List.all_eq_true] at hx
  refine execOp_congr o (fun cs b e => ?_) fun x hm => h.rho (hx.2 x (by simpa using hm))
  rw [e] at hx
  simp [noSel] at hx

/-! ### One operation -/

section
variable {P : Program} {F : Fx} {E : Env} {w : World} {K : Value → World → Prop}

theorem out_value {s : Sem Value} {v : Value} {w' : World} (h : s.run P w = .ok v w') (hk : K v w') : Out P K ((do pure (Next.value (← s)) : Sem Next).run P w) := by
  simp only [Sem.run_bind, h, Result.andThen_ok, Sem.run_pure, Out]; exact hk
theorem out_unit {s : Sem Unit} {w' : World} (h : s.run P w = .ok () w') (hk : K undef w') : Out P K ((do s; pure Next.skip : Sem Next).run P w) := by
  simp only [Sem.run_bind, h, Result.andThen_ok, Sem.run_pure, Out]; exact hk

theorem run_isAgg {t : TypeId} {d : TypeDesc} (h : P.underlying t = some d) : (isAgg t).run P w = .ok (isAggD (some d)) w := by
  simp only [isAgg, Sem.run_bind, run_underlying h, Result.andThen_ok]
  cases d <;> rfl
theorem szOf_info {t : TypeId} {n : Nat} (h : szOf P t = some n) : ∃ i, P.info? t = some i ∧ i.size = n := by
  simpa [szOf] using h
theorem run_size {t : TypeId} {n : Nat} (h : szOf P t = some n) : (sizeOf t).run P w = .ok n w := by
  obtain ⟨i, hi, rfl⟩ := szOf_info h
  simp [sizeOf, run_typeInfo w hi]
theorem run_loadOne {a : Addr} {v : Value} (h : w.cell? a = some v) : (load a).run P w = .ok v w := by
  simp [load, Sem.run, h]

theorem ldL_run {a : Addr} {K : List Value → Prop} : ∀ (ts : List Ty1) (i : Nat), ldL w a i ts K → ∃ l : List Value, l.length = ts.length ∧ (∀ j v, l[j]? = some v → w.cell? (a.add (i + j)) = some v) ∧ K l
  | [], _, h => ⟨[], rfl, by simp, h⟩
  | t :: ts, i, h => by
    obtain ⟨x, hx, hr⟩ := h
    obtain ⟨l, h1, h2, h3⟩ := ldL_run ts (i + 1) hr
    refine ⟨t.v x :: l, by simp [h1], fun j v hj => ?_, h3⟩
    cases j with
    | zero => simp at hj; subst hj; simpa using hx
    | succ j => have := h2 j v (by simpa using hj); rw [show i + (j + 1) = i + 1 + j by omega]; exact this

theorem ldV_run {t : TypeId} {x : Value} {K : Value → Prop} (h : ldV P t x w K) : ∃ v, (Instr.loadAt t x).run P w = .ok v w ∧ K v := by
  unfold ldV at h
  split at h
  · rename_i a
    have e : ∀ v, (loadVar t a).run P w = .ok v w → (Instr.loadAt t (.pointer (some a))).run P w = .ok v w := fun v hv => by
      simp only [Instr.loadAt, Instr.sureAddr, Sem.run_bind, Sem.run_pure, Result.andThen_ok]; exact hv
    split at h
    · rename_i d n hd hn
      have ha := run_isAgg (P := P) (w := w) hd
      split at h
      · rename_i hf
        obtain ⟨x, hx, hk⟩ := h
        refine ⟨_, e _ ?_, hk⟩
        simp only [loadVar, Sem.run_bind, ha, hf, Result.andThen_ok, Bool.false_eq_true, if_false, run_loadOne hx]
      · rename_i ht
        split at h
        · rename_i ts _
          split at h
          · rename_i hlen
            obtain ⟨l, h1, h2, h3⟩ := ldL_run ts 0 h
            refine ⟨_, e _ ?_, h3⟩
            have hl : l.length = n := by rw [h1]; exact beq_eq hlen
            have := run_loadCells_list (P := P) w a l (fun j v hj => by simpa using h2 j v hj)
            simp only [loadVar, Sem.run_bind, ha, ht, Result.andThen_ok, if_true, run_size hn, ← hl, this, Sem.run_pure]
          · exact h.elim
        · obtain ⟨x, hx, hk⟩ := h
          exact ⟨.agg x, e _ hx, hk⟩
    · exact h.elim
  · exact h.elim

theorem run_storeOne {a : Addr} {v : Value} (h : CanSt w a) (hv : one1 v = true) : (store a v).run P w = .ok () (w.setCell a v) := by
  obtain ⟨⟨o, ho⟩, hf⟩ := h
  cases v <;> simp [one1] at hv <;> simp [store, Sem.run, ho, hf]
theorem stL_run {a : Addr} {K : World → Prop} : ∀ (vs : List Value) (i : Nat) (w : World), stL a i vs w K → ∃ w', (storeCells a vs i).run P w = .ok () w' ∧ K w'
  | [], _, w, h => ⟨w, by simp [storeCells], h⟩
  | v :: r, i, w, h => by
    rcases Br_elim h with ⟨hv, hc, hr⟩ | ⟨_, hn⟩
    · obtain ⟨w', h1, h2⟩ := stL_run r (i + 1) _ hr
      exact ⟨w', by simp only [storeCells, Sem.run_bind, run_storeOne hc hv, Result.andThen_ok]; exact h1, h2⟩
    · exact hn.elim
theorem stV_run {t : TypeId} {x y : Value} {K : World → Prop} (h : stV P t x y w K) : ∃ w', (Instr.storeAt t x y).run P w = .ok () w' ∧ K w' := by
  unfold stV at h
  split at h
  · rename_i a
    have e : ∀ w', (storeVar t a y).run P w = .ok () w' → (Instr.storeAt t (.pointer (some a)) y).run P w = .ok () w' := fun v hv => by
      simp only [Instr.storeAt, Instr.sureAddr, Sem.run_bind, Sem.run_pure, Result.andThen_ok]; exact hv
    split at h
    · rename_i d n hd hn
      split at h
      · split at h
        · rename_i hn1
          rcases Br_elim h with ⟨hv, hc, hk⟩ | ⟨_, hf⟩
          · refine ⟨_, e _ ?_, hk⟩
            have h1 : y.cells = #[y] := by cases y <;> simp [one1] at hv <;> rfl
            have h2 : n = 1 := beq_eq hn1
            subst h2
            have hs : (store (a.add 0) y).run P w = .ok () (w.setCell a y) := by simpa [Addr.add] using run_storeOne (P := P) hc hv
            simp only [storeVar, Sem.run_bind, run_size hn, Result.andThen_ok, h1]
            simp [storeCells, hs]
          · exact hf.elim
        · exact h.elim
      · split at h
        · rename_i cs
          split at h
          · rename_i hlen
            obtain ⟨w', h1, h2⟩ := stL_run (P := P) _ _ _ h
            refine ⟨w', e _ ?_, h2⟩
            have hl : cs.size = n := beq_eq hlen
            simp only [storeVar, Sem.run_bind, run_size hn, Result.andThen_ok, Value.cells, hl]
            simpa using h1
          · exact h.elim
        · obtain ⟨w', h1, h2⟩ := h
          exact ⟨w', e _ h1, h2⟩
    · exact h.elim
  · exact h.elim

theorem runV_out {t : TypeId} {s : Sem Value} (h : runV P false t s w K) : Out P K ((do pure (Next.value (← s)) : Sem Next).run P w) := by
  obtain ⟨x, w', hr, hk⟩ := h
  exact out_value hr hk
theorem runU_out {s : Sem Unit} (h : runU P s w K) : Out P K ((do s; pure Next.skip : Sem Next).run P w) := by
  obtain ⟨w', hr, hk⟩ := h
  exact out_unit hr hk
end
end Sh
end Go.Proofs.YtpkadliieplblaaDoor
