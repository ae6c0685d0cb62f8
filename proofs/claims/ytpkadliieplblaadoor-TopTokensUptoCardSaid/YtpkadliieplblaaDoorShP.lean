/- One operation, all kinds: the formula of 'Sh' implies what the model's operation does. Condition: the functions that may be called have a body. -/
import Derived.Test.YtpkadliieplblaaDoorShO
namespace Go.Proofs.YtpkadliieplblaaDoor
namespace Sh
section
variable {P : Program} {F : Fx} {E : Env} {w : World} {K : Value → World → Prop}

theorem pu_lenStr (ts : Array TypeId) (t : TypeId) (args : Array Value) (s : ByteArray) (h : args[0]? = some (.string s)) : Pu (Builtin.len_ ts t args) := by
  unfold Builtin.len_
  cases h1 : ts[0]? with
  | none => exact Pu.stuck _
  | some t0 =>
    simp only [h]
    refine Pu.bind (Pu.underlying _) fun d => ?_
    cases d <;> first | exact Pu.pure _ | exact Pu.stuck _ | (refine Pu.bind (Pu.underlying _) fun d2 => ?_; cases d2 <;> first | exact Pu.pure _ | exact Pu.stuck _)
theorem pu_lenSlc (ts : Array TypeId) (t : TypeId) (args : Array Value) (p : Option Addr) (l c : Nat) (h : args[0]? = some (.slice p l c)) : Pu (Builtin.len_ ts t args) := by
  unfold Builtin.len_
  cases h1 : ts[0]? with
  | none => exact Pu.stuck _
  | some t0 =>
    simp only [h]
    refine Pu.bind (Pu.underlying _) fun d => ?_
    cases d <;> first | exact Pu.pure _ | exact Pu.stuck _ | (refine Pu.bind (Pu.underlying _) fun d2 => ?_; cases d2 <;> first | exact Pu.pure _ | exact Pu.stuck _)
theorem pu_capSlc (ts : Array TypeId) (t : TypeId) (args : Array Value) (p : Option Addr) (l c : Nat) (h : args[0]? = some (.slice p l c)) : Pu (Builtin.cap_ ts t args) := by
  unfold Builtin.cap_
  cases h1 : ts[0]? with
  | none => exact Pu.stuck _
  | some t0 =>
    simp only [h]
    refine Pu.bind (Pu.underlying _) fun d => ?_
    cases d <;> first | exact Pu.pure _ | exact Pu.stuck _ | (refine Pu.bind (Pu.underlying _) fun d2 => ?_; cases d2 <;> first | exact Pu.pure _ | exact Pu.stuck _)
theorem isInts_cons {v : Value} {r : List Value} (h : isInts (v :: r) = true) : (∃ k n, v = .int k n) ∧ isInts r = true := by
  cases v <;> simp only [isInts, Bool.false_eq_true] at h
  exact ⟨⟨_, _, rfl⟩, h⟩
theorem pu_minFold : ∀ (r : List Value) (k : IntKind) (n : Int), isInts r = true → Pu (r.foldlM Builtin.min2 (.int k n))
  | [], _, _, _ => Pu.pure _
  | v :: r, k, n, h => by
    obtain ⟨⟨k', n', rfl⟩, h2⟩ := isInts_cons h
    simp only [List.foldlM_cons, Builtin.min2, pure_bind]
    exact pu_minFold r _ _ h2
theorem pu_maxFold : ∀ (r : List Value) (k : IntKind) (n : Int), isInts r = true → Pu (r.foldlM Builtin.max2 (.int k n))
  | [], _, _, _ => Pu.pure _
  | v :: r, k, n, h => by
    obtain ⟨⟨k', n', rfl⟩, h2⟩ := isInts_cons h
    simp only [List.foldlM_cons, Builtin.max2, pure_bind]
    exact pu_maxFold r _ _ h2
theorem pu_min (ts : Array TypeId) (t : TypeId) (args : Array Value) (h : isInts args.toList = true) : Pu (Builtin.min_ ts t args) := by
  unfold Builtin.min_
  generalize args.toList = l at h
  cases l with
  | nil => exact Pu.stuck _
  | cons v r =>
    obtain ⟨⟨k, n, rfl⟩, h2⟩ := isInts_cons h
    exact pu_minFold r k n h2
theorem pu_max (ts : Array TypeId) (t : TypeId) (args : Array Value) (h : isInts args.toList = true) : Pu (Builtin.max_ ts t args) := by
  unfold Builtin.max_
  generalize args.toList = l at h
  cases l with
  | nil => exact Pu.stuck _
  | cons v r =>
    obtain ⟨⟨k, n, rfl⟩, h2⟩ := isInts_cons h
    exact pu_maxFold r k n h2

/-- What an operation that only computes leaves. -/
def Qv (P : Program) (s : Sem Next) (w : World) (K : Value → World → Prop) : Prop := ∃ v, (∀ w2, s.run P w2 = .ok (.value v) w2) ∧ K v w

theorem qv_pure {v : Value} (h : Out P K ((Pure.pure (Next.value v) : Sem Next).run P w)) : Qv P (Pure.pure (Next.value v)) w K := ⟨v, fun _ => rfl, h⟩
theorem qv_of {s : Sem Value} (hs : Pu s) (h : Out P K ((do pure (Next.value (← s)) : Sem Next).run P w)) : Qv P (do pure (Next.value (← s))) w K := pu_out hs h
/-- A value that this computation yields in every world. -/
theorem qv_val {s : Sem Value} {v : Value} (hs : ∀ w2, s.run P w2 = .ok v w2) (h : K v w) : Qv P (do pure (Next.value (← s))) w K :=
  ⟨v, fun w2 => by simp only [Sem.run_bind, hs w2, Result.andThen_ok, Sem.run_pure], h⟩

theorem convert_int {src dst : TypeId} {k k' : IntKind} {n : Int} (h : P.underlying dst = some (.int k')) (w : World) :
    (convert src dst (.int k n)).run P w = (do let _ ← underlying src; pure (Value.int k' (k'.wrap n)) : Sem Value).run P w := by
  unfold convert
  simp only [Sem.run_bind]
  cases (underlying src).run P w with
  | halt => rfl
  | ok d w' =>
    simp only [Result.andThen_ok, run_underlying h, Conv.intToInt]
theorem qv_convert {src dst : TypeId} {k k' : IntKind} {n : Int} (hu : P.underlying dst = some (.int k'))
    (h : Out P K ((do pure (Next.value (← convert src dst (.int k n))) : Sem Next).run P w)) : Qv P (do pure (Next.value (← convert src dst (.int k n)))) w K := by
  have e : ∀ w, (do pure (Next.value (← convert src dst (.int k n))) : Sem Next).run P w = (do pure (Next.value (← (do let _ ← underlying src; pure (Value.int k' (k'.wrap n)) : Sem Value))) : Sem Next).run P w := fun w => by
    simp only [Sem.run_bind, convert_int hu]
  rw [e] at h
  obtain ⟨v, h1, h2⟩ := pu_out (Pu.bind (Pu.underlying src) fun _ => Pu.pure _) h
  exact ⟨v, fun w2 => by rw [e]; exact h1 w2, h2⟩

section
variable {G : Prop}
theorem equalIn_ptr {t e : TypeId} (hu : P.underlying t = some (.pointer e)) (p : Option Addr) (w : World) : (Op.equal t (.pointer p) (.pointer none)).run P w = .ok p.isNone w := by
  show (Op.equalIn (9999 + 1) t (.pointer p) (.pointer none)).run P w = _
  generalize 9999 = n
  simp only [Op.equalIn, Sem.run_bind, run_underlying hu, Result.andThen_ok]
  cases p <;> rfl
theorem equalIn_slc {t e : TypeId} (hu : P.underlying t = some (.slice e)) (p : Option Addr) (l c l' c' : Nat) (w : World) : (Op.equal t (.slice p l c) (.slice none l' c')).run P w = .ok p.isNone w := by
  show (Op.equalIn (9999 + 1) t (.slice p l c) (.slice none l' c')).run P w = _
  generalize 9999 = n
  simp only [Op.equalIn, Sem.run_bind, run_underlying hu, Result.andThen_ok]
  cases p <;> rfl
theorem equalIn_iface {t : TypeId} {ms : Array (String × TypeId)} (hu : P.underlying t = some (.interface ms)) (u : TypeId) (v : Value) (w : World) : (Op.equal t (.iface u v) .nilIface).run P w = .ok false w := by
  show (Op.equalIn (9999 + 1) t (.iface u v) .nilIface).run P w = _
  generalize 9999 = n
  simp only [Op.equalIn, Sem.run_bind, run_underlying hu, Result.andThen_ok]
  rfl
theorem equalIn_nil {t : TypeId} {ms : Array (String × TypeId)} (hu : P.underlying t = some (.interface ms)) (w : World) : (Op.equal t .nilIface .nilIface).run P w = .ok true w := by
  show (Op.equalIn (9999 + 1) t .nilIface .nilIface).run P w = _
  generalize 9999 = n
  simp only [Op.equalIn, Sem.run_bind, run_underlying hu, Result.andThen_ok]
  rfl
theorem equalIn_func {t : TypeId} {a b c} (hu : P.underlying t = some (.func a b c)) (f : Fn) (x y : Array Value) (w : World) : (Op.equal t (.func f x y) .nilFunc).run P w = .ok false w := by
  show (Op.equalIn (9999 + 1) t (.func f x y) .nilFunc).run P w = _
  generalize 9999 = n
  simp only [Op.equalIn, Sem.run_bind, run_underlying hu, Result.andThen_ok]
  rfl
theorem equalIn_nilFunc {t : TypeId} {a b c} (hu : P.underlying t = some (.func a b c)) (w : World) : (Op.equal t .nilFunc .nilFunc).run P w = .ok true w := by
  show (Op.equalIn (9999 + 1) t .nilFunc .nilFunc).run P w = _
  generalize 9999 = n
  simp only [Op.equalIn, Sem.run_bind, run_underlying hu, Result.andThen_ok]
  rfl
theorem isC_spec {y : Operand} (h : isC y = true) : ∃ v, y = .const v := by
  cases y <;> first | exact ⟨_, rfl⟩ | cases h
theorem equalIn_map {t a b : TypeId} (hu : P.underlying t = some (.map a b)) (p : Option Nat) (w : World) : (Op.equal t (.map p) (.map none)).run P w = .ok p.isNone w := by
  show (Op.equalIn (9999 + 1) t (.map p) (.map none)).run P w = _
  generalize 9999 = n
  simp only [Op.equalIn, Sem.run_bind, run_underlying hu, Result.andThen_ok]
  cases p <;> rfl

theorem run_sizeOf' {t : TypeId} {d : TypeDesc} (h : P.underlying t = some d) (w : World) : (sizeOf t).run P w = .ok (P.cellsOf t) w := by
  unfold Program.underlying at h
  split at h <;> rename_i hi
  · exact run_sizeOf w hi
  · exact run_sizeOf w hi
  · cases h
theorem run_part_struct {t : TypeId} {fs : Array Field} (hu : P.underlying t = some (.struct fs)) (cs : Array Value) (off : Nat) (w : World) : (part t cs off).run P w = .ok (.agg (cs.extract off (off + P.cellsOf t))) w := by
  simp only [part, Sem.run_bind, run_isAgg hu, Result.andThen_ok, isAggD, if_true, run_sizeOf' hu, Sem.run_pure]
theorem run_eqFs : ∀ (n d : Nat) (xs ys : Array Value) (fs : List Field) (b : Bool), n ≤ d → eqFs P n xs ys fs = some b → ∀ w, (Op.eqFields (d + 1) xs ys fs).run P w = .ok b w
  | 0, _, _, _, _, _, _, h, w => by cases h
  | n + 1, d, xs, ys, [], b, _, h, w => by simp only [eqFs, Option.some.injEq] at h; subst h; rfl
  | n + 1, d, xs, ys, f :: r, b, hnd, h, w => by
    have step : ∀ (x y : Value) (c : Bool) (q : Bool), (∀ w, (part f.type xs f.offset).run P w = .ok x w) → (∀ w, (part f.type ys f.offset).run P w = .ok y w) → f.name ≠ "_" →
        (∀ w, (Op.equalIn (d + 1) f.type x y).run P w = .ok c w) → eqFs P n xs ys r = some q → (Op.eqFields (d + 1) xs ys (f :: r)).run P w = .ok (c && q) w := by
      intro x y c q hx hy hn he hq
      have ih := run_eqFs n d xs ys r q (by omega) hq w
      simp only [Op.eqFields, if_pos hn, Sem.run_bind, hx, hy, he, Result.andThen_ok]
      cases c
      · simp
      · simpa using ih
    have hp : isAggD (P.underlying f.type) = false → (∃ d, P.underlying f.type = some d) → ∀ (cs : Array Value) (v : Value), cs[f.offset]? = some v → ∀ w, (part f.type cs f.offset).run P w = .ok v w := fun ha hd cs v hv w => by
      obtain ⟨d, hd⟩ := hd
      rw [hd] at ha
      simp only [part, Sem.run_bind, run_isAgg hd, ha, Result.andThen_ok, Bool.false_eq_true, if_false, hv, Sem.run_pure]
    simp only [eqFs] at h
    split at h
    · cases h
    · rename_i hn
      split at h
      · rename_i fs' hu
        split at h
        · rename_i hst
          obtain ⟨p, hp', h2⟩ := Option.bind_eq_some_iff.1 h
          obtain ⟨q, hq, rfl⟩ := Option.map_eq_some_iff.1 h2
          refine step _ _ p q (run_part_struct hu xs _) (run_part_struct hu ys _) hn (fun w => ?_) hq
          have hf : P.fieldsOf f.type = fs' := by simp only [Program.fieldsOf, hu]
          rw [run_equalIn_struct w d f.type _ _ (by rw [hf]; exact hu) hst, hf]
          cases n with
          | zero => cases hp'
          | succ n =>
            obtain ⟨d', rfl⟩ : ∃ d', d = d' + 1 := ⟨d - 1, by omega⟩
            exact run_eqFs (n + 1) d' _ _ _ _ (by omega) hp' w
        · cases h
      · rename_i dd hns hu
        split at h
        · rename_i k0 k a k' b' hx hy
          split at h
          · rename_i e
            subst e
            obtain ⟨q, hq, rfl⟩ := Option.map_eq_some_iff.1 h
            exact step _ _ _ q (hp (by rw [hu]; rfl) ⟨_, hu⟩ _ _ hx) (hp (by rw [hu]; rfl) ⟨_, hu⟩ _ _ hy) hn (fun w => run_equalIn_int w _ _ _ _ _ _ hu) hq
          · cases h
        · rename_i a b' hx hy
          obtain ⟨q, hq, rfl⟩ := Option.map_eq_some_iff.1 h
          exact step _ _ _ q (hp (by rw [hu]; rfl) ⟨_, hu⟩ _ _ hx) (hp (by rw [hu]; rfl) ⟨_, hu⟩ _ _ hy) hn (fun w => run_equalIn_bool' w _ _ _ _ hu) hq
        · rename_i a b' hx hy
          obtain ⟨q, hq, rfl⟩ := Option.map_eq_some_iff.1 h
          exact step _ _ _ q (hp (by rw [hu]; rfl) ⟨_, hu⟩ _ _ hx) (hp (by rw [hu]; rfl) ⟨_, hu⟩ _ _ hy) hn (fun w => run_equalIn_string w _ _ _ _ hu) hq
        · cases h
      · cases h
theorem eqAgg_run {t : TypeId} {xs ys : Array Value} {b : Bool} (h : eqAgg P t xs ys = some b) : P.eqGuardType P.depth t = false ∧ ∀ w, (Op.equalIn 10000 t (.agg xs) (.agg ys)).run P w = .ok b w := by
  unfold eqAgg at h
  split at h
  · rename_i fs hu
    split at h
    · rename_i h1 h2
      refine ⟨h2, fun w => ?_⟩
      have hf : P.fieldsOf t = fs := by simp only [Program.fieldsOf, hu]
      show (Op.equalIn (9999 + 1) t (.agg xs) (.agg ys)).run P w = _
      rw [run_equalIn_struct w 9999 t xs ys (by rw [hf]; exact hu) h1, hf]
      exact run_eqFs 60 9998 _ _ _ _ (by decide) h w
    · cases h
  · cases h

theorem binV_elim {op : BinOp} {t : TypeId} {x y : Operand} {a b : Value} {D O : Prop} (h : binV P op t (isC y) a b (fun v => K v w) D O) (hD : D → G) (hO : O → G)
    (hq : Qv P (do pure (Next.value (← (do eqGuard op t x y a b; binOp op t a b)))) w K → G) : G := by
  have qv : ∀ v, (∀ w2, (do eqGuard op t x y a b; binOp op t a b : Sem Value).run P w2 = .ok v w2) → K v w → G := fun v h1 h2 => hq (qv_val h1 h2)
  unfold binV at h
  split at h
  · split at h
    · split at h
      · rename_i e
        subst e
        exact qv _ (fun w2 => by simp [eqGuard, binOp, Op.intDiv, h.1]) h.2
      · exact h.elim
    · exact hD h
  · split at h
    · split at h
      · rename_i e
        subst e
        exact qv _ (fun w2 => by simp [eqGuard, binOp, Op.intDiv, h.1]) h.2
      · exact h.elim
    · exact hD h
  · split at h
    · refine qv _ (fun w2 => ?_) h.2
      have := h.1
      simp [eqGuard, binOp, Op.shift, Int.not_lt.2 this]
    · exact hD h
  · split at h
    · refine qv _ (fun w2 => ?_) h.2
      have := h.1
      simp [eqGuard, binOp, Op.shift, Int.not_lt.2 this]
    · exact hD h
  · split at h
    · refine qv _ (fun w2 => ?_) h.2
      have := h.1
      have h2 : ¬ (((_ : ByteArray).size + (_ : ByteArray).size : Nat) : Int) > IntKind.i64.max := Int.not_lt.2 this
      simp only [eqGuard, binOp, Op.stringOp, Sem.run_bind]
      show (Sem.run P (if _ then _ else _) w2) = _
      rw [if_neg h2]
      rfl
    · exact hD h
  · split at h
    · exact hD h
    · exact hD h
    · exact hD h
    · split at h
      · rename_i hu
        exact qv _ (fun w2 => by simp only [eqGuard, binOp, Sem.run_bind, Sem.run_pure]; simp [equalIn_ptr hu]) h
      · exact hO h
    · split at h
      · rename_i hu
        exact qv _ (fun w2 => by simp only [eqGuard, binOp, Sem.run_bind, Sem.run_pure]; simp [equalIn_slc hu]) h
      · exact hO h
    · split at h
      · rename_i hu
        exact qv _ (fun w2 => by simp only [eqGuard, binOp, Sem.run_bind, Sem.run_pure]; simp [equalIn_map hu]) h
      · exact hO h
    · split at h
      · rename_i hc hu
        exact qv _ (fun w2 => by simp only [eqGuard, binOp, Sem.run_bind, Sem.run_pure]; simp [equalIn_iface hu]) h
      · exact hO h
    · split at h
      · rename_i hc hu
        obtain ⟨c, rfl⟩ := isC_spec hc
        exact qv _ (fun w2 => by simp only [eqGuard, binOp, Sem.run_bind, Sem.run_pure]; simp [equalIn_nil hu]) h
      · exact hO h
    · split at h
      · rename_i hc hu
        exact qv _ (fun w2 => by simp only [eqGuard, binOp, Sem.run_bind, Sem.run_pure]; simp [equalIn_func hu]) h
      · exact hO h
    · split at h
      · rename_i hc hu
        exact qv _ (fun w2 => by simp only [eqGuard, binOp, Sem.run_bind, Sem.run_pure]; simp [equalIn_nilFunc hu]) h
      · exact hO h
    · split at h
      · rename_i b hb
        obtain ⟨h1, h2⟩ := eqAgg_run hb
        exact qv _ (fun w2 => by simp only [Sem.run_bind, run_eqGuard_agg w2 _ _ _ _ _ _ h1, Result.andThen_ok, run_eql_struct, h2]) h
      · exact hO h
    · exact hO h
  · split at h
    · exact hD h
    · exact hD h
    · exact hD h
    · split at h
      · rename_i hu
        exact qv _ (fun w2 => by simp only [eqGuard, binOp, Sem.run_bind, Sem.run_pure]; simp [equalIn_ptr hu]) h
      · exact hO h
    · split at h
      · rename_i hu
        exact qv _ (fun w2 => by simp only [eqGuard, binOp, Sem.run_bind, Sem.run_pure]; simp [equalIn_slc hu]) h
      · exact hO h
    · split at h
      · rename_i hu
        exact qv _ (fun w2 => by simp only [eqGuard, binOp, Sem.run_bind, Sem.run_pure]; simp [equalIn_map hu]) h
      · exact hO h
    · split at h
      · rename_i hc hu
        exact qv _ (fun w2 => by simp only [eqGuard, binOp, Sem.run_bind, Sem.run_pure]; simp [equalIn_iface hu]) h
      · exact hO h
    · split at h
      · rename_i hc hu
        obtain ⟨c, rfl⟩ := isC_spec hc
        exact qv _ (fun w2 => by simp only [eqGuard, binOp, Sem.run_bind, Sem.run_pure]; simp [equalIn_nil hu]) h
      · exact hO h
    · split at h
      · rename_i hc hu
        exact qv _ (fun w2 => by simp only [eqGuard, binOp, Sem.run_bind, Sem.run_pure]; simp [equalIn_func hu]) h
      · exact hO h
    · split at h
      · rename_i hc hu
        exact qv _ (fun w2 => by simp only [eqGuard, binOp, Sem.run_bind, Sem.run_pure]; simp [equalIn_nilFunc hu]) h
      · exact hO h
    · split at h
      · rename_i b hb
        obtain ⟨h1, h2⟩ := eqAgg_run hb
        exact qv _ (fun w2 => by simp only [Sem.run_bind, run_eqGuard_agg w2 _ _ _ _ _ _ h1, Result.andThen_ok, run_neq_struct, h2]) h
      · exact hO h
    · exact hO h
  · exact hD h



theorem fdV_elim {t : TypeId} {x : Value} {f : Nat} {D : Prop} (h : fdV P t x f (fun v => K v w) D) (hD : D → G)
    (hq : Qv P (do pure (Next.value (← Instr.fieldAt t x f))) w K → G) : G := by
  unfold fdV at h
  split at h
  · split at h
    · rename_i fs hu
      split at h
      · rename_i fd hf
        split at h
        · rename_i n hn
          split at h
          · rename_i hb
            have hne : n ≠ 0 := fun e => by subst e; simp at hb
            refine hq (qv_val (fun w2 => ?_) h)
            simp only [Instr.fieldAt, Sem.run_bind, run_underlying hu, Result.andThen_ok, hf, Instr.sureAddr, Sem.run_pure, fieldPlace, run_size hn, if_neg hne]
          · exact hD h
        · exact hD h
      · exact hD h
    · exact hD h
  · exact hD h

theorem idxV_elim {t : TypeId} {c : Bool} {x y : Value} {D : Prop} (h : idxV P t c x y (fun v => K v w) D) (hD : D → G)
    (hq : Qv P (do pure (Next.value (← Instr.index t x y))) w K → G) : G := by
  unfold idxV at h
  split at h
  · rename_i s k i
    split at h
    · rename_i hu
      obtain ⟨h1, h2, hk⟩ := h
      refine hq (qv_val (fun w2 => ?_) hk)
      have hlt : i.toNat < s.size := by omega
      have hlt' : i.toNat < s.data.size := hlt
      have hg : s[i.toNat]? = some (s.data.getD i.toNat 0) := by
        rw [getElem?_pos s i.toNat hlt]
        simp only [Array.getD, hlt', dif_pos]
        rfl
      simp only [Instr.index, asIntOf, Sem.run_bind, Sem.run_pure, Result.andThen_ok, run_underlying hu, if_pos h1, hg, bAt]
    · exact hD h
  · rename_i cs k i
    split at h
    · rename_i len e hu
      split at h
      · rename_i d n hd hn
        split at h
        · rename_i hag
          obtain ⟨h1, h2, v, hv, hk⟩ := h
          refine hq (qv_val (fun w2 => ?_) hk)
          simp only [Instr.index, asIntOf, Sem.run_bind, Sem.run_pure, Result.andThen_ok, run_underlying hu, if_pos (And.intro h1 h2), run_size hn, part, run_isAgg hd, hag, Bool.false_eq_true, if_false, hv]
        · rename_i hag
          split at h
          · obtain ⟨h1, h2, v, hv, hk⟩ := h
            refine hq (qv_val (fun w2 => ?_) hk)
            simp only [Instr.index, asIntOf, Sem.run_bind, Sem.run_pure, Result.andThen_ok, run_underlying hu, if_pos (And.intro h1 h2), run_size hn, part, run_isAgg hd, hag, if_true, hv]
          · exact hD h
      · exact hD h
    · exact hD h
  · exact hD h

theorem idxA_elim {t : TypeId} {c : Bool} {x y : Value} {D : Prop} (h : idxA P t c x y (fun v => K v w) D) (hD : D → G)
    (hq : Qv P (do pure (Next.value (← Instr.indexAt t x y))) w K → G) : G := by
  unfold idxA at h
  split at h
  · rename_i p len cap k i
    split at h
    · rename_i e hu
      split at h
      · rename_i n hn
        obtain ⟨h1, h2, a, rfl, hk⟩ := h
        refine hq (qv_val (fun w2 => ?_) hk)
        simp only [Instr.indexAt, asIntOf, Sem.run_bind, Sem.run_pure, Result.andThen_ok, run_underlying hu, if_pos (And.intro h1 h2), run_size hn]
      · exact hD h
    · exact hD h
  · rename_i a k i
    split at h
    · rename_i len e hu
      split at h
      · rename_i n hn
        obtain ⟨h1, h2, hk⟩ := h
        refine hq (qv_val (fun w2 => ?_) hk)
        simp only [Instr.indexAt, Instr.sureAddr, asIntOf, Sem.run_bind, Sem.run_pure, Result.andThen_ok, run_underlying hu, if_pos (And.intro h1 h2), run_size hn]
      · exact hD h
    · exact hD h
  · exact hD h

theorem bnd_elim {top : Nat} {x : Option Value} {other : Nat} {K' : Nat → Prop} {D : Prop} (h : bnd top x other K' D) (hD : D → G)
    (hn : x = none → K' other → G) (hs : ∀ k i, x = some (.int k i) → 0 ≤ i → i ≤ top → K' i.toNat → G) : G := by
  unfold bnd at h
  split at h
  · exact hn rfl h
  · exact hs _ _ rfl h.1 h.2.1 h.2.2
  · exact hD h
theorem run_bound {k : IntKind} {i : Int} {y : Nat} {c : BoundsCode} {w : World} (h1 : 0 ≤ i) (h2 : i ≤ y) : (Instr.sliceBound (.int k i) y c).run P w = .ok i.toNat w := by
  simp only [Instr.sliceBound, asIntOf, Sem.run_bind, Sem.run_pure, Result.andThen_ok, if_pos (And.intro h1 h2)]

theorem slV_elim {t : TypeId} {x : Value} {lo hi mx : Option Value} {D : Prop} (h : slV P t x lo hi mx (fun v => K v w) D) (hD : D → G)
    (hq : Qv P (do pure (Next.value (← Instr.sliceAt t x lo hi mx))) w K → G) : G := by
  unfold slV at h
  split at h
  · rename_i s
    split at h
    · rename_i hu
      refine bnd_elim h hD (fun e1 ha => bnd_elim ha hD (fun e2 hb => ?_) fun k i e2 g1 g2 hb => ?_) fun k' i' e1 g3 g4 ha => bnd_elim ha hD (fun e2 hb => ?_) fun k i e2 g1 g2 hb => ?_
      all_goals
        subst e1 e2
        refine hq (qv_val (fun w2 => ?_) hb)
        simp only [Instr.sliceAt, Instr.slice, Instr.sliceBounds, Sem.run_bind, run_underlying hu, Result.andThen_ok, Option.isSome_none, Bool.false_eq_true, if_false, Sem.run_pure]
        first | done | rw [run_bound g3 g4, Result.andThen_ok, run_bound g1 g2]; rfl | rw [run_bound g3 g4]; rfl | rw [run_bound g1 g2]; rfl
    · exact hD h
  · rename_i p len cap
    split at h
    · rename_i e hu
      split at h
      · rename_i n hn
        split at h
        · exact hD h
        · rename_i mx hi hno
          refine bnd_elim h hD (fun e0 hz => ?_) fun k0 i0 e0 g5 g6 hz => ?_
          · refine bnd_elim hz hD (fun e1 ha => bnd_elim ha hD (fun e2 hb => ?_) fun k i e2 g1 g2 hb => ?_) fun k' i' e1 g3 g4 ha => bnd_elim ha hD (fun e2 hb => ?_) fun k i e2 g1 g2 hb => ?_
            all_goals
              subst e0 e1 e2
              refine hq (qv_val (fun w2 => ?_) hb)
              simp only [Instr.sliceAt, Instr.slice, Instr.sliceBounds, Sem.run_bind, run_underlying hu, Result.andThen_ok, Option.isSome_none, Bool.false_eq_true, if_false, Sem.run_pure]
              first | (rw [run_size hn]; rfl) | (rw [run_bound g3 g4, Result.andThen_ok, run_bound g1 g2, Result.andThen_ok, Result.andThen_ok, run_size hn]; rfl) | (rw [run_bound g3 g4, Result.andThen_ok, Result.andThen_ok, run_size hn]; rfl) | (rw [run_bound g1 g2, Result.andThen_ok, Result.andThen_ok, run_size hn]; rfl)
          · refine bnd_elim hz hD (fun e1 _ => ?_) fun k' i' e1 g3 g4 ha => bnd_elim ha hD (fun e2 hb => ?_) fun k i e2 g1 g2 hb => ?_
            · subst e0 e1
              exact (hno _ rfl rfl).elim
            all_goals
              subst e0 e1 e2
              refine hq (qv_val (fun w2 => ?_) hb)
              simp only [Instr.sliceAt, Instr.slice, Instr.sliceBounds, Sem.run_bind, run_underlying hu, Result.andThen_ok, Option.isSome_some, if_true, Sem.run_pure]
              first | (rw [run_bound g5 g6, Result.andThen_ok, run_bound g3 g4, Result.andThen_ok, run_bound g1 g2, Result.andThen_ok, Result.andThen_ok, run_size hn]; rfl) | (rw [run_bound g5 g6, Result.andThen_ok, run_bound g3 g4, Result.andThen_ok, Result.andThen_ok, run_size hn]; rfl)
      · exact hD h
    · exact hD h
  · rename_i a
    split at h
    · rename_i c e hu
      split at h
      · rename_i n hn
        refine bnd_elim h hD (fun e1 ha => bnd_elim ha hD (fun e2 hb => ?_) fun k i e2 g1 g2 hb => ?_) fun k' i' e1 g3 g4 ha => bnd_elim ha hD (fun e2 hb => ?_) fun k i e2 g1 g2 hb => ?_
        all_goals
          subst e1 e2
          refine hq (qv_val (fun w2 => ?_) hb)
          simp only [Instr.sliceAt, Instr.sureAddr, Instr.sliceBounds, Sem.run_bind, run_underlying hu, Result.andThen_ok, Option.isSome_none, Bool.false_eq_true, if_false, Sem.run_pure, Slc.v, Slc.cut, Option.map_some]
          first | (rw [run_size hn]; simp only [Result.andThen_ok]; split <;> rfl) | (rw [run_bound g3 g4, Result.andThen_ok, run_bound g1 g2, Result.andThen_ok, Result.andThen_ok, run_size hn]; simp only [Result.andThen_ok]; split <;> rfl) | (rw [run_bound g3 g4, Result.andThen_ok, Result.andThen_ok, run_size hn]; simp only [Result.andThen_ok]; split <;> rfl) | (rw [run_bound g1 g2, Result.andThen_ok, Result.andThen_ok, run_size hn]; simp only [Result.andThen_ok]; split <;> rfl)
      · exact hD h
    · exact hD h
  · exact hD h
end
end
end Sh
end Go.Proofs.YtpkadliieplblaaDoor
