/- One operation: the formula of 'Sh' implies what the model's operation does. Condition: the functions that may be called have a body. -/
import Derived.Test.YtpkadliieplblaaDoorShS
import Derived.Laws.Panics
namespace Go.Proofs.YtpkadliieplblaaDoor
namespace Sh

/-- It leaves the world alone, and what it yields does not hang on the world. -/
def Pu {α : Type} (s : Sem α) : Prop := ∀ (P : Program) (w : World) (x : α) (w' : World), s.run P w = .ok x w' → w' = w ∧ ∀ w2, s.run P w2 = .ok x w2

theorem Pu.pure {α : Type} (a : α) : Pu (Pure.pure a : Sem α) := by
  intro P w x w' h
  simp only [Sem.run_pure, Result.ok.injEq] at h
  obtain ⟨rfl, rfl⟩ := h
  exact ⟨rfl, fun _ => rfl⟩
theorem Pu.never {α : Type} {s : Sem α} (h : ∀ P w, ∃ x w', s.run P w = .halt x w') : Pu s := by
  intro P w x w' hr
  obtain ⟨y, w'', hy⟩ := h P w
  rw [hy] at hr
  cases hr
theorem Pu.stuck {α : Type} (t : String) : Pu (Go.stuck t : Sem α) := Pu.never fun _ w => ⟨_, w, rfl⟩
theorem Pu.unsupported {α : Type} (t : Unsupported) : Pu (Go.unsupported t : Sem α) := Pu.never fun _ w => ⟨_, w, rfl⟩
theorem Pu.bounds {α : Type} (k : IntKind) (x y : Int) (c : BoundsCode) : Pu (boundsPanic k x y c : Sem α) := Pu.never fun P w => by
  obtain ⟨s, w', h⟩ := run_boundsPanic (P := P) (w := w) (α := α) k x y c
  exact ⟨_, w', h⟩
theorem Pu.bind {α β : Type} {s : Sem α} {f : α → Sem β} (h : Pu s) (hf : ∀ a, Pu (f a)) : Pu (s >>= f) := by
  intro P w x w' hr
  simp only [Sem.run_bind] at hr
  cases e : s.run P w with
  | halt y w'' => rw [e] at hr; simp [Result.andThen] at hr
  | ok a w'' =>
    rw [e] at hr
    simp only [Result.andThen_ok] at hr
    obtain ⟨rfl, h1⟩ := h P w a w'' e
    obtain ⟨rfl, h2⟩ := hf a P w'' x w' hr
    exact ⟨rfl, fun w2 => by simp only [Sem.run_bind, h1 w2, Result.andThen_ok, h2 w2]⟩
theorem Pu.program : Pu Go.program := by
  intro P w x w' h
  simp only [run_program, Result.ok.injEq] at h
  obtain ⟨rfl, rfl⟩ := h
  exact ⟨rfl, fun _ => rfl⟩
theorem Pu.error {α : Type} (m : String) : Pu (runtimePanic (.error m) : Sem α) := Pu.never fun _ w => ⟨_, w, rfl⟩
theorem Pu.typeInfo (t : TypeId) : Pu (Go.typeInfo t) := Pu.bind Pu.program fun _ => by
  split
  · exact Pu.pure _
  · exact Pu.stuck _
theorem Pu.underlying (t : TypeId) : Pu (Go.underlying t) := Pu.bind Pu.program fun _ => by
  split
  · exact Pu.pure _
  · exact Pu.stuck _
theorem Pu.zeroValue (t : TypeId) : Pu (Go.zeroValue t) := by
  unfold Go.zeroValue
  refine Pu.bind (Pu.typeInfo t) fun i => ?_
  split
  · exact Pu.pure _
  · first | exact Pu.stuck _ | exact Pu.unsupported _
theorem Pu.sizeOf (t : TypeId) : Pu (Go.sizeOf t) := Pu.bind (Pu.typeInfo t) fun _ => Pu.pure _
theorem Pu.isAgg (t : TypeId) : Pu (Go.isAgg t) := Pu.bind (Pu.underlying t) fun d => by split <;> exact Pu.pure _
theorem Pu.part (t : TypeId) (cs : Array Value) (o : Nat) : Pu (Go.part t cs o) := Pu.bind (Pu.isAgg t) fun b => by
  split
  · exact Pu.bind (Pu.sizeOf t) fun _ => Pu.pure _
  · split
    · exact Pu.pure _
    · exact Pu.stuck _
theorem Pu.asIntOf (v : Value) : Pu (Go.asIntOf v) := by
  unfold Go.asIntOf
  split
  · exact Pu.pure _
  · exact Pu.unsupported _
  · exact Pu.stuck _
theorem Pu.ite {α : Type} {c : Prop} [Decidable c] {s t : Sem α} (h : Pu s) (k : Pu t) : Pu (if c then s else t) := by
  split
  · exact h
  · exact k

section
variable {P : Program} {F : Fx} {E : Env} {w : World} {K : Value → World → Prop}

theorem pu_out {s : Sem Value} (hs : Pu s) (h : Out P K ((do pure (Next.value (← s)) : Sem Next).run P w)) :
    ∃ v, (∀ w2, (do pure (Next.value (← s)) : Sem Next).run P w2 = .ok (.value v) w2) ∧ K v w := by
  simp only [Sem.run_bind] at h ⊢
  cases e : s.run P w with
  | halt y w'' => rw [e] at h; exact h.elim
  | ok v w'' =>
    rw [e] at h
    obtain ⟨rfl, h1⟩ := hs P w v w'' e
    exact ⟨v, fun w2 => by rw [h1 w2]; rfl, h⟩

theorem out_of_pu {s : Sem Next} (h : ∃ v, (∀ w2, s.run P w2 = .ok (.value v) w2) ∧ K v w) : Out P K (s.run P w) := by
  obtain ⟨v, h1, h2⟩ := h
  rw [h1 w]; exact h2

theorem pu_binInt (op : BinOp) (t : TypeId) (x y : Operand) (k k' : IntKind) (a b : Int) : Pu (do eqGuard op t x y (.int k a) (.int k' b); binOp op t (.int k a) (.int k' b)) := by
  refine Pu.bind ?_ fun _ => ?_
  · cases op <;> exact Pu.pure _
  · cases op <;> simp only [binOp] <;> (try (refine Pu.ite (Pu.stuck _) ?_)) <;>
      first
      | exact Pu.pure _
      | exact Pu.stuck _
      | (simp only [Op.intArith]; exact Pu.pure _)
      | (simp only [Op.intDiv]; exact Pu.ite (Pu.error _) (Pu.pure _))
      | (simp only [Op.intBits]; exact Pu.pure _)
      | (simp only [Op.intCmp]; first | exact Pu.pure _ | exact Pu.stuck _)
      | (simp only [Op.shift]; exact Pu.ite (Pu.error _) (Pu.pure _))
theorem pu_binStr (op : BinOp) (t : TypeId) (x y : Operand) (a b : ByteArray) : Pu (do eqGuard op t x y (.string a) (.string b); binOp op t (.string a) (.string b)) := by
  refine Pu.bind ?_ fun _ => ?_
  · cases op <;> exact Pu.pure _
  · cases op <;> simp only [binOp, Op.stringOp] <;> first | exact Pu.pure _ | exact Pu.stuck _ | exact Pu.ite (Pu.unsupported _) (Pu.pure _)
theorem pu_equalInBool (n : Nat) (t : TypeId) (a b : Bool) : Pu (Op.equalIn (n + 1) t (.bool a) (.bool b)) := by
  simp only [Op.equalIn]
  refine Pu.bind (Pu.underlying t) fun d => ?_
  cases d <;> first | exact Pu.pure _ | exact Pu.stuck _
theorem pu_equalBool (t : TypeId) (a b : Bool) : Pu (Op.equal t (.bool a) (.bool b)) := pu_equalInBool 9999 t a b
theorem pu_binBool (op : BinOp) (t : TypeId) (x y : Operand) (a b : Bool) : Pu (do eqGuard op t x y (.bool a) (.bool b); binOp op t (.bool a) (.bool b)) := by
  refine Pu.bind ?_ fun _ => ?_
  · cases op <;> exact Pu.pure _
  · cases op <;> simp only [binOp] <;> first | exact Pu.stuck _ | exact Pu.bind (pu_equalBool t a b) fun _ => Pu.pure _
theorem pu_bin {op : BinOp} {t : TypeId} {x y : Operand} {a b : Value} (h : sameKind a b = true) : Pu (do eqGuard op t x y a b; binOp op t a b) := by
  cases a <;> cases b <;> simp only [sameKind, Bool.false_eq_true] at h
  · exact pu_binBool _ _ _ _ _ _
  · exact pu_binInt _ _ _ _ _ _ _ _
  · exact pu_binStr _ _ _ _ _ _
theorem pu_unary (op : UnOp) (x : Value) : Pu (Op.unary op x) := by
  unfold Op.unary
  split <;> first | exact Pu.pure _ | exact Pu.stuck _ | exact Pu.unsupported _ | skip
theorem pu_extract (t : Value) (i : Nat) : Pu (Instr.extract t i) := by
  unfold Instr.extract
  split
  · split
    · exact Pu.pure _
    · exact Pu.stuck _
  · exact Pu.stuck _
theorem pu_field (t : TypeId) (x : Value) (f : Nat) : Pu (Instr.field t x f) := by
  unfold Instr.field
  refine Pu.bind (Pu.underlying t) fun d => ?_
  split
  · split
    · refine Pu.bind ?_ fun _ => Pu.part _ _ _
      unfold asAgg
      split
      · exact Pu.pure _
      · exact Pu.stuck _
    · exact Pu.stuck _
  · exact Pu.stuck _
theorem Pu.mapL {α β : Type} {f : α → Sem β} (hf : ∀ a, Pu (f a)) : ∀ l : List α, Pu (l.mapM f)
  | [] => by rw [List.mapM_nil]; exact Pu.pure _
  | a :: l => by rw [List.mapM_cons]; exact Pu.bind (hf a) fun _ => Pu.bind (Pu.mapL hf l) fun _ => Pu.pure _
theorem Pu.mapA {α β : Type} {f : α → Sem β} (hf : ∀ a, Pu (f a)) (l : Array α) : Pu (l.mapM f) := by
  rw [Array.mapM_eq_mapM_toList]
  exact Pu.bind (Pu.mapL hf _) fun _ => Pu.pure _
theorem pu_build (t : TypeId) (parts : Array (Nat × Value)) : Pu (Instr.build t parts) := by
  unfold Instr.build
  refine Pu.bind (Pu.zeroValue t) fun z => Pu.bind (Pu.underlying t) fun d => ?_
  split
  · refine Pu.bind (Pu.mapA (fun f => Pu.bind (Pu.sizeOf _) fun _ => Pu.pure _) _) fun places => ?_
    split
    · exact Pu.pure _
    · exact Pu.stuck _
  · refine Pu.bind (Pu.sizeOf _) fun n => ?_
    split
    · exact Pu.pure _
    · exact Pu.stuck _
  · exact Pu.stuck _
theorem pu_index (t : TypeId) (x i : Value) : Pu (Instr.index t x i) := by
  unfold Instr.index
  refine Pu.bind (Pu.asIntOf i) fun ki => ?_
  obtain ⟨k, n⟩ := ki
  refine Pu.bind (Pu.underlying t) fun d => ?_
  split
  · exact Pu.ite (Pu.bind (Pu.sizeOf _) fun _ => Pu.part _ _ _) (Pu.bounds _ _ _ _)
  · split
    · exact Pu.pure _
    · exact Pu.bounds _ _ _ _
  · exact Pu.stuck _
theorem pu_sure (x : Value) : Pu (Instr.sureAddr x) := by
  unfold Instr.sureAddr
  split
  · exact Pu.pure _
  · exact Pu.stuck _
theorem pu_indexAt (t : TypeId) (x i : Value) : Pu (Instr.indexAt t x i) := by
  unfold Instr.indexAt
  refine Pu.bind (Pu.asIntOf i) fun ki => ?_
  obtain ⟨k, n⟩ := ki
  refine Pu.bind (Pu.underlying t) fun d => ?_
  have tail : ∀ (base : Option Addr) (len : Nat) (elem : TypeId), Pu (do
      let tiny := len ≤ 1 && (match ← Go.underlying t with | .array .. => true | _ => false)
      match base with
      | some a =>
        if 0 ≤ n ∧ n < len then pure (Value.pointer (some (a.add (n.toNat * (← Go.sizeOf elem)))))
        else if tiny then Go.unsupported (.noEntry "op/indexAddr.an index out of range at an array of length 0 or 1 (ledger 616)")
        else boundsPanic k n len .index
      | none => boundsPanic k n 0 .index) := by
    intro base len elem
    refine Pu.bind (Pu.underlying t) fun d2 => ?_
    cases base with
    | none => exact Pu.bounds _ _ _ _
    | some a =>
      refine Pu.ite (Pu.bind (Pu.sizeOf _) fun _ => Pu.pure _) ?_
      exact Pu.ite (Pu.unsupported _) (Pu.bounds _ _ _ _)
  dsimp only
  split
  · exact Pu.bind (pu_sure _) fun _ => Pu.bind (Pu.pure _) fun bl => tail bl.1 bl.2.1 bl.2.2
  · exact Pu.bind (Pu.pure _) fun bl => tail bl.1 bl.2.1 bl.2.2
  · exact Pu.bind (Pu.stuck _) fun bl => tail bl.1 bl.2.1 bl.2.2
theorem pu_bound (x : Value) (y : Nat) (c : BoundsCode) : Pu (Instr.sliceBound x y c) := by
  unfold Instr.sliceBound
  refine Pu.bind (Pu.asIntOf x) fun ki => ?_
  obtain ⟨k, n⟩ := ki
  exact Pu.ite (Pu.pure _) (Pu.bounds _ _ _ _)
theorem pu_bounds (s : Bool) (l c : Nat) (lo hi mx : Option Value) : Pu (Instr.sliceBounds s l c lo hi mx) := by
  unfold Instr.sliceBounds
  have t3 : ∀ (m h l : Nat), Pu (Pure.pure (l, h, m) : Sem (Nat × Nat × Nat)) := fun _ _ _ => Pu.pure _
  have t2 : ∀ (m h : Nat), Pu (do
      let l ← match lo with
        | some v => Instr.sliceBound v h (if mx.isSome then .slice3C else .sliceB)
        | none => pure 0
      pure (l, h, m)) := by
    intro m h
    cases lo with
    | none => exact Pu.bind (Pu.pure _) fun _ => t3 _ _ _
    | some v => exact Pu.bind (pu_bound _ _ _) fun _ => t3 _ _ _
  cases mx with
  | none => cases hi with
    | none => exact Pu.bind (Pu.pure _) fun m => Pu.bind (Pu.pure _) fun h => t2 m h
    | some v => exact Pu.bind (Pu.pure _) fun m => Pu.bind (pu_bound _ _ _) fun h => t2 m h
  | some u => cases hi with
    | none => exact Pu.bind (pu_bound _ _ _) fun m => Pu.bind (Pu.stuck _) fun h => t2 m h
    | some v => exact Pu.bind (pu_bound _ _ _) fun m => Pu.bind (pu_bound _ _ _) fun h => t2 m h
theorem Pu.asAddr (v : Value) : Pu (Go.asAddr v) := by
  unfold Go.asAddr
  split
  · exact Pu.pure _
  · exact Pu.never fun P w => ⟨_, w, rfl⟩
  · exact Pu.stuck _
theorem pu_slice (t : TypeId) (x : Value) (lo hi mx : Option Value) : Pu (Instr.slice t x lo hi mx) := by
  unfold Instr.slice
  refine Pu.bind (Pu.underlying t) fun d => ?_
  split
  · split
    · exact Pu.stuck _
    · exact Pu.bind (pu_bounds _ _ _ _ _ _) fun _ => Pu.pure _
  · exact Pu.bind (pu_bounds _ _ _ _ _ _) fun _ => Pu.bind (Pu.sizeOf _) fun _ => Pu.pure _
  · refine Pu.bind (Pu.asAddr _) fun a => Pu.bind (Pu.underlying _) fun d2 => ?_
    split
    · exact Pu.bind (pu_bounds _ _ _ _ _ _) fun _ => Pu.bind (Pu.sizeOf _) fun _ => Pu.pure _
    · exact Pu.stuck _
  · exact Pu.stuck _
theorem pu_sliceAt (t : TypeId) (x : Value) (lo hi mx : Option Value) : Pu (Instr.sliceAt t x lo hi mx) := by
  unfold Instr.sliceAt
  refine Pu.bind (Pu.underlying t) fun d => ?_
  split
  · exact Pu.bind (pu_sure _) fun a => Pu.bind (pu_bounds _ _ _ _ _ _) fun _ => Pu.bind (Pu.sizeOf _) fun _ => Pu.pure _
  · exact pu_slice _ _ _ _ _
end
end Sh
end Go.Proofs.YtpkadliieplblaaDoor
