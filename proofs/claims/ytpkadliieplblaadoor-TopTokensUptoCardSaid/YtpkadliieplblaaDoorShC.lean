/- Regions, code and whole functions: the formula of 'Sh' implies the model's own account. Conditions: the functions that may be called have a body; every slot lies inside the frame. -/
import Derived.Test.YtpkadliieplblaaDoorShP
namespace Go.Proofs.YtpkadliieplblaaDoor
namespace Sh
section
variable {P : Program} {F : Fx} {E : Env} {w : World} {K : Value → World → Prop}

/-- The functions that 'F' admits may be entered. -/
def CallsOk (P : Program) (F : Nat → Bool) : Prop := ∀ g fn, F g = true → P.funcs[g]? = some fn → fn.body.isSome = true ∧ fn.name ≠ "runtime.NumGoroutine"

theorem exRes_elim {tys : List Ty} : ∀ {K' : List Value → Prop}, callV.exRes tys K' → ∃ l, K' l := by
  induction tys with
  | nil => intro K' h; exact ⟨[], h⟩
  | cons t ts ih => intro K' h; obtain ⟨x, hx⟩ := h; obtain ⟨l, hl⟩ := ih hx; exact ⟨_, hl⟩

theorem Out.toP {pk : Value → World → Prop} {r : Result Next} (h : Out P K r) : OutP P pk K r := by
  cases r with
  | halt x w => exact h.elim
  | ok n w =>
    cases n <;> try exact h.elim
    case value v => exact h
    case skip => exact h
    case enter f args => exact Calls.mono h fun e w' he => .inl he
theorem callV_out (hF : CallsOk P F.ok) {g : Nat} {args : Array Value} (h : callV P F g args w K) : OutP P F.pk K ((callFunc g args).run P w) := by
  unfold callV at h
  split at h
  · exact h.elim
  · rename_i hg
    split at h
    · exact h.elim
    · rename_i fn hfn
      obtain ⟨hb, hn⟩ := hF g fn hg hfn
      have hb' : fn.body.isNone = false := by cases hx : fn.body <;> simp_all
      have hn' : (fn.name == "runtime.NumGoroutine") = false := by simpa using hn
      simp only [callFunc, Sem.run_bind, run_program, Result.andThen_ok, hfn, hn', hb', Bool.false_eq_true, if_false, Sem.run_pure, OutP]
      split at h
      · refine h.mono fun e w' he => ?_
        obtain ⟨l, h1, h2⟩ := exRes_elim he
        exact .inl ⟨_, h1, h2⟩
      · refine h.mono fun e w' he => ?_
        rcases he with he | he
        · obtain ⟨l, h1, h2⟩ := exRes_elim he
          exact .inl ⟨_, h1, h2⟩
        · exact .inr he

theorem qv_pick {c a b : Value} (h : Out P K ((do pure (Next.value (if ← asBool c then a else b)) : Sem Next).run P w)) : Qv P (do pure (Next.value (if ← asBool c then a else b))) w K := by
  cases c with
  | bool t => exact ⟨_, fun _ => rfl, h⟩
  | _ => exact h.elim

theorem qv_call {c : Call} {b : Builtin} {t : TypeId} {s : Sem Value} (hc : c.callee = .builtin b)
    (hb : ∀ consts, builtin b c.argTypes t consts (c.args.map E.rho) = (do pure (Next.value (← s)))) (hs : Pu s)
    (h : Out P K ((do let d ← resolve E.rho c t; invoke d.target d.args : Sem Next).run P w)) : Qv P (do let d ← resolve E.rho c t; invoke d.target d.args) w K := by
  have e : (do let d ← resolve E.rho c t; invoke d.target d.args : Sem Next) = (do pure (Next.value (← s))) := by
    simp only [resolve, hc, pure_bind, invoke, hb]
  rw [e] at h ⊢
  exact qv_of hs h

theorem arg0 {xs : Array Operand} {v : Value} (h : xs[0]?.map E.rho = some v) : (xs.map E.rho)[0]? = some v := by simpa using h

/-- What a call of a builtin that only computes leaves. -/
theorem callQ {c : Call} {t : TypeId} {D : Prop} (hD : D → Qv P (do let d ← resolve E.rho c t; invoke d.target d.args) w K)
    (h : match c.callee with
      | .builtin .len => (match c.args[0]?.map E.rho with
        | some (.string _) => Out P K ((do let d ← resolve E.rho c t; invoke d.target d.args : Sem Next).run P w)
        | some (.slice _ _ _) => Out P K ((do let d ← resolve E.rho c t; invoke d.target d.args : Sem Next).run P w)
        | _ => D)
      | .builtin .cap => (match c.args[0]?.map E.rho with
        | some (.slice _ _ _) => Out P K ((do let d ← resolve E.rho c t; invoke d.target d.args : Sem Next).run P w)
        | _ => D)
      | .builtin .min => (match isInts (c.args.map E.rho).toList with
        | true => Out P K ((do let d ← resolve E.rho c t; invoke d.target d.args : Sem Next).run P w)
        | false => D)
      | .builtin .max => (match isInts (c.args.map E.rho).toList with
        | true => Out P K ((do let d ← resolve E.rho c t; invoke d.target d.args : Sem Next).run P w)
        | false => D)
      | _ => D) : Qv P (do let d ← resolve E.rho c t; invoke d.target d.args) w K := by
  split at h
  · rename_i hc
    split at h
    · rename_i ha; exact qv_call hc (fun _ => rfl) (pu_lenStr _ _ _ _ (arg0 ha)) h
    · rename_i ha; exact qv_call hc (fun _ => rfl) (pu_lenSlc _ _ _ _ _ _ (arg0 ha)) h
    · exact hD h
  · rename_i hc
    split at h
    · rename_i ha; exact qv_call hc (fun _ => rfl) (pu_capSlc _ _ _ _ _ _ (arg0 ha)) h
    · exact hD h
  · rename_i hc
    split at h
    · rename_i ha; exact qv_call hc (fun _ => rfl) (pu_min _ _ _ ha) h
    · exact hD h
  · rename_i hc
    split at h
    · rename_i ha; exact qv_call hc (fun _ => rfl) (pu_max _ _ _ ha) h
    · exact hD h
  · exact hD h

theorem out_val {v : Value} {w' : World} (h : K v w') : Out P K (.ok (.value v) w') := h
attribute [local irreducible] Out

theorem opV_q {o : Oper} (hs : stillOp P o.op = true) (hl : ∀ t x, o.op ≠ .load t x) (h : opV P F true E o w K) : Qv P (execOp E.rho o) w K := by
  obtain ⟨dst, op, type, pos, after, guard⟩ := o
  simp only [opV] at h
  simp only at hs hl
  cases op <;> simp only [stillOp, Bool.false_eq_true] at hs <;> simp only at h
  case move x => exact qv_pure h
  case assign x => exact qv_pure h
  case pick c a b => exact qv_pick h
  case load t x => exact (hl t x rfl).elim
  case nilCheck x =>
    split at h
    · rename_i p hx
      obtain ⟨a, rfl, hk⟩ := h
      exact ⟨_, fun _ => by simp only [execOp, hx]; rfl, hk⟩
    · exact h.elim
  case binOp op t x y yt =>
    refine binV_elim h (fun hd => ?_) (fun ho => ho.elim) id
    split at hd
    · rename_i hk
      exact qv_of (pu_bin hk) hd
    · exact hd.elim
  case unOp op t x => exact qv_of (pu_unary _ _) h
  case convert src dst x =>
    split at h
    · rename_i k n hx
      split at h
      · rename_i k' hu
        simp only [execOp, hx] at h ⊢
        exact qv_convert hu h
      · exact h.elim
    · exact h.elim
  case slice t x lo hi mx => exact slV_elim h (fun hd => qv_of (pu_sliceAt _ _ _ _ _) hd) id
  case fieldAddr t x f => exact fdV_elim h (fun hd => hd.elim) id
  case field t x f => exact qv_of (pu_field _ _ _) h
  case build t ps => exact qv_of (pu_build _ _) h
  case indexAddr t x i => exact idxA_elim h (fun hd => qv_of (pu_indexAt _ _ _) hd) id
  case index t x i => exact idxV_elim h (fun hd => qv_of (pu_index _ _ _) hd) id
  case extract t i => exact qv_of (pu_extract _ _) h
  case call c =>
    refine callQ (D := False) (fun h => h.elim) ?_
    split at h <;> first
      | exact h.elim
      | (rename_i hc; simp only [hc]; exact h)
      | (split at h <;> exact h.elim)
      | (rename_i hc; simp only [hc]; split at h <;> first | exact h.elim | (rename_i ha; simp only [ha]; exact h))

theorem qv_out {s : Sem Next} (h : Qv P s w K) : Out P K (s.run P w) := out_of_pu h

theorem out_builtin {c : Call} {b : Builtin} {t : TypeId} {s : Sem Value} (hc : c.callee = .builtin b)
    (hb : ∀ consts, builtin b c.argTypes t consts (c.args.map E.rho) = (do pure (Next.value (← s))))
    (h : Out P K ((do pure (Next.value (← s)) : Sem Next).run P w)) : Out P K ((do let d ← resolve E.rho c t; invoke d.target d.args : Sem Next).run P w) := by
  have e : (do let d ← resolve E.rho c t; invoke d.target d.args : Sem Next) = (do pure (Next.value (← s))) := by
    simp only [resolve, hc, pure_bind, invoke, hb]
  rw [e]; exact h

theorem taHit_spec {u : TypeId} {x v : Value} (h : taHit P u x = some v) : ∃ t, x = .iface t v ∧ ∃ d, P.underlying u = some d ∧ isIfaceD d = false ∧ t = u := by
  unfold taHit at h
  split at h
  · rename_i t y
    split at h
    · rename_i d hd
      split at h
      · rename_i h1 h2
        cases h
        exact ⟨t, rfl, d, hd, h1, Nat.eq_of_beq_eq_true h2⟩
      · cases h
    · cases h
  · cases h
theorem nx_out {a : Addr} {ty : TypeId} (h : Nx w a (fun i c w' => K (.tuple #[.bool true, .int .i64 i, .int .i32 c]) w') (K (.tuple #[.bool false]) w)) : ∃ v w', (Instr.next (.pointer (some a)) true ty).run P w = .ok v w' ∧ K v w' := by
  obtain ⟨s, pos, ho, hb, hc⟩ := h
  obtain ⟨b, o, sp⟩ := a
  simp only at ho hb hc
  subst ho
  by_cases hp : pos < s.size
  · rw [decide_eq_true hp] at hc
    refine ⟨_, _, ?_, hc⟩
    simp [Instr.next, getObj, setObj, Sem.run, hb, hp, goInt, itW]
  · rw [decide_eq_false hp] at hc
    refine ⟨_, _, ?_, hc⟩
    simp [Instr.next, getObj, Sem.run, hb, hp]
theorem opV_out (hF : CallsOk P F.ok) {o : Oper} (h : opV P F false E o w K) : OutP P F.pk K ((execOp E.rho o).run P w) := by
  obtain ⟨dst, op, type, pos, after, guard⟩ := o
  simp only [opV] at h
  cases op <;> simp only at h <;> try exact Out.toP h
  case load t x =>
    obtain ⟨v, h1, h2⟩ := ldV_run h
    exact Out.toP (out_value h1 h2)
  case store t x y =>
    obtain ⟨w', h1, h2⟩ := stV_run h
    exact Out.toP (out_unit h1 h2)
  case nilCheck x =>
    split at h
    · rename_i p hx
      obtain ⟨a, rfl, hk⟩ := h
      simp only [execOp, hx]; exact Out.toP (out_val hk)
    · exact Out.toP h
  case binOp op t x y yt =>
    refine Out.toP (binV_elim h (fun hd => ?_) (fun ho => runV_out ho) (fun h => qv_out h))
    split at hd <;> exact hd
  case convert src dst x =>
    split at h
    · split at h <;> exact Out.toP h
    · exact Out.toP (runV_out h)
  case makeSlice t l c => exact Out.toP (runV_out h)
  case slice t x lo hi mx => exact Out.toP (slV_elim h id (fun h => qv_out h))
  case fieldAddr t x f => exact Out.toP (fdV_elim h id (fun h => qv_out h))
  case indexAddr t x i => exact Out.toP (idxA_elim h id (fun h => qv_out h))
  case index t x i => exact Out.toP (idxV_elim h id (fun h => qv_out h))
  case lookup t x i ok =>
    split at h
    · exact Out.toP (runV_out h)
    · split at h
      · obtain ⟨x, b, w', hr, hk⟩ := h
        exact Out.toP (out_value hr hk)
      · exact Out.toP h
  case panic x =>
    unfold panicV at h
    split at h
    · rename_i t y hx
      simp only [execOp, hx]
      exact h
    · exact h.elim
  case range t x =>
    split at h
    · rename_i s hq hx hu
      refine Out.toP (out_value (w' := w.alloc (.stringIter s 0)) ?_ h)
      rw [hx]
      simp [Instr.range, run_underlying hu]
    · exact Out.toP h
  case next it str =>
    split at h
    · rename_i a hq hx
      obtain ⟨v, w', h1, h2⟩ := nx_out (P := P) (ty := type) h
      refine Out.toP (out_value (w' := w') ?_ h2)
      rw [hx]
      exact h1
    · exact Out.toP h
  case mapUpdate t m k x => exact Out.toP (runU_out h)
  case typeAssert x t u ok =>
    split at h
    · exact Out.toP (runV_out h)
    · split at h
      · rename_i v hv
        refine Out.toP (out_value (w' := w) ?_ h)
        obtain ⟨y, hx, d, hu, hi, hy⟩ := taHit_spec hv
        rw [hx]
        simp only [Instr.typeAssert, Sem.run_bind, run_underlying hu, Result.andThen_ok]
        subst hy
        clear h hv hF
        cases d <;> simp_all [isIfaceD]
      · obtain ⟨x, b, w', hr, hk⟩ := h
        exact Out.toP (out_value hr hk)
  case call c =>
    split at h
    · rename_i f hc
      split at h
      · rename_i g first captured _ hf
        have e : (do let d ← resolve E.rho c type; invoke d.target d.args : Sem Next) = callFunc g ((first ++ (c.args.map E.rho)) ++ captured) := by
          simp only [resolve, hc, hf, Deferred.ofValue, pure_bind, invoke]
        show OutP P F.pk K ((do let d ← resolve E.rho c type; invoke d.target d.args : Sem Next).run P w)
        rw [e]
        exact callV_out hF h
      · exact Out.toP h
    · rename_i hc; exact Out.toP (out_builtin hc (fun _ => rfl) (runV_out h))
    · rename_i hc; exact Out.toP (out_builtin hc (fun _ => rfl) (runV_out h))
    · rename_i hc
      split at h
      · exact Out.toP h
      · exact Out.toP h
      · exact Out.toP (out_builtin hc (fun _ => rfl) (runV_out h))
      · exact Out.toP h
    · split at h <;> exact Out.toP h
    · split at h <;> exact Out.toP h
    · split at h <;> exact Out.toP h
    · exact Out.toP h
end
end Sh
end Go.Proofs.YtpkadliieplblaaDoor
