/- What an argument's reading tells: its cells, kind by kind. No condition. -/
import Derived.Test.YtpkadliieplblaaDoorHp
import Derived.OpenShut
import Derived.ChangeArms
import Derived.WideShapes
namespace Go.Proofs.YtpkadliieplblaaDoor
namespace Sh
set_option linter.unusedVariables false

/-- The cells of a value of type t, read to depth n. -/
def RdC (P : Program) (w : World) : Nat → TypeId → List Value → Prop
  | 0, _, _ => False
  | n + 1, t, cs => match P.underlying t with
    | some (.int k) => ∃ x, cs = [.int k x] ∧ (Lit.int k x).wf = true
    | some .bool => ∃ b, cs = [.bool b]
    | some .string => ∃ s : ByteArray, cs = [.string s] ∧ s.size ≤ maxLen
    | some (.slice e) => ∃ s : Slc, cs = [Slc.v s] ∧ (s = ⟨none, 0, 0⟩ ∨ ∃ a, s.p = some a ∧ s.len ≤ s.cap ∧ s.cap ≤ maxLen ∧
        ∀ i, i < s.len → ∃ cs', cs'.length = P.cellsOf e ∧ (∀ j, j < P.cellsOf e → w.cell? (a.add (i * P.cellsOf e + j)) = cs'[j]?) ∧ RdC P w n e cs')
    | some (.struct fs) => cs.length = P.cellsOf t ∧ ∀ (i : Nat) (f : Field), fs[i]? = some f → RdC P w n f.type ((cs.drop f.offset).take (P.cellsOf f.type))
    | some (.array m e) => cs.length = P.cellsOf t ∧ ∀ i, i < m → RdC P w n e ((cs.drop (i * P.cellsOf e)).take (P.cellsOf e))
    | some (.pointer e) => ∃ p : Option Addr, cs = [.pointer p] ∧ ∀ a, p = some a → ∃ cs', cs'.length = P.cellsOf e ∧ (∀ j, j < P.cellsOf e → w.cell? (a.add j) = cs'[j]?) ∧ RdC P w n e cs'
    | _ => True

theorem list4 {α : Type} {l : List α} (h : l.length = 4) : ∃ a b c d, l = [a, b, c, d] := by
  match l, h with
  | [a, b, c, d], _ => exact ⟨a, b, c, d, rfl⟩
theorem add_add' (a : Addr) (i j : Nat) : (a.add i).add j = a.add (i + j) := by
  unfold Addr.add
  split
  · rename_i h; subst h; simp
  · split
    · rename_i h; subst h; simp_all
    · split
      · omega
      · simp [Nat.add_assoc]
theorem rdC_of {H : Type} {enc : TypeId × Value → H} {P : Program} {w : World} {spare : Nat → Bool} {held : Bool} : ∀ (n : Nat) (t : TypeId) (cs : List Value) (x : DataW H × List MemPlace),
    DataW.trod enc P w 0 spare held n t cs = some x → RdC P w n t cs
  | 0, t, cs, x, h => by simp [DataW.trod] at h
  | n + 1, t, cs, x, h => by
    unfold RdC
    split
    · rename_i k ht
      obtain ⟨y, h1, _, h2⟩ := DataW.trod_int ht h
      exact ⟨y, h1, h2⟩
    · rename_i ht
      obtain ⟨y, h1, _⟩ := DataW.trod_bool ht h
      exact ⟨y, h1⟩
    · rename_i ht
      obtain ⟨y, h1, _, h2⟩ := DataW.trod_string ht h
      exact ⟨y, h1, h2⟩
    · rename_i e ht
      rcases DataW.trod_slice ht h with ⟨h0, _⟩ | ⟨a, len, cap, elems, rest, m, hm, hcs, _, _, hl, hc, hel, hi, _⟩
      · exact ⟨⟨none, 0, 0⟩, h0, .inl rfl⟩
      · cases hm
        refine ⟨⟨some a, len, cap⟩, hcs, .inr ⟨a, rfl, hl, hc, fun i hil => ?_⟩⟩
        have hg : elems[i]? = some (elems[i]'(by rw [hel]; exact hil)) := List.getElem?_eq_getElem _
        have h2 := (hi i hil).trans hg
        obtain ⟨cs', h3, h4⟩ := Option.bind_eq_some_iff.1 h2
        obtain ⟨_, h5, h6⟩ := World.cells?_some h3
        exact ⟨cs', h5, fun j hj => by rw [← add_add']; exact h6 j hj, rdC_of n e cs' _ h4⟩
    · rename_i fs ht
      obtain ⟨xs, m, hm, _, hl, hxl, hf⟩ := DataW.trod_struct ht h
      cases hm
      refine ⟨hl, fun i f hfi => ?_⟩
      have hlt : i < fs.size := (Array.getElem?_eq_some_iff.1 hfi).1
      exact rdC_of n f.type _ _ ((hf i f hfi).trans (List.getElem?_eq_getElem (by rw [hxl]; exact hlt)))
    · rename_i m e ht
      obtain ⟨xs, m', hm, _, hl, hxl, hf⟩ := DataW.trod_array ht h
      cases hm
      exact ⟨hl, fun i hi => rdC_of n e _ _ ((hf i hi).trans (List.getElem?_eq_getElem (by rw [hxl]; exact hi)))⟩
    · rename_i e ht
      rcases DataW.trod_pointer ht h with ⟨h0, _⟩ | ⟨a, cs', y, m, hm, hcs, _, hc, hy⟩
      · exact ⟨none, h0, fun a ha => by cases ha⟩
      · cases hm
        refine ⟨some a, hcs, fun a' ha => ?_⟩
        cases ha
        obtain ⟨_, h5, h6⟩ := World.cells?_some hc
        exact ⟨cs', h5, h6, rdC_of n e cs' y hy⟩
    · trivial
theorem rdC_Trod {H : Type} {enc : TypeId × Value → H} {P : Program} {w : World} {spare : Nat → Bool} {held : Bool} {t : TypeId} {v : Value} {d : DataW H} {ps : List MemPlace}
    (h : DataW.Trod enc P w 0 spare held t v d ps) : ∃ n, RdC P w n t v.cells.toList := by
  obtain ⟨n, hn⟩ := h
  exact ⟨n, rdC_of n t _ _ hn⟩
/-- Offset and type of each field of a struct type. -/
def fieldsAt (P : Program) (t : TypeId) : Option (List (Nat × TypeId)) := match P.underlying t with
  | some (.struct fs) => some (fs.toList.map fun f => (f.offset, f.type))
  | _ => none
section
variable {P : Program} {w : World} {n : Nat} {t : TypeId} {cs : List Value}
theorem rdC_struct {L : List (Nat × TypeId)} (hL : fieldsAt P t = some L) (h : RdC P w n t cs) : cs.length = P.cellsOf t ∧ ∃ m, ∀ (i o : Nat) (u : TypeId), L[i]? = some (o, u) → RdC P w m u ((cs.drop o).take (P.cellsOf u)) := by
  cases n with
  | zero => exact h.elim
  | succ n =>
    unfold RdC at h
    unfold fieldsAt at hL
    split at hL
    · rename_i fs hu
      rw [hu] at h
      cases hL
      refine ⟨h.1, n, fun i o u hi => ?_⟩
      rw [List.getElem?_map] at hi
      obtain ⟨f, h1, h2⟩ := Option.map_eq_some_iff.1 hi
      cases h2
      exact h.2 i f (by simpa using h1)
    · cases hL
theorem rdC_int {k : IntKind} (hu : P.underlying t = some (.int k)) (h : RdC P w n t cs) : ∃ x, cs = [.int k x] ∧ (Lit.int k x).wf = true := by
  cases n with
  | zero => exact h.elim
  | succ n => unfold RdC at h; rw [hu] at h; exact h
theorem rdC_bool (hu : P.underlying t = some .bool) (h : RdC P w n t cs) : ∃ b, cs = [.bool b] := by
  cases n with
  | zero => exact h.elim
  | succ n => unfold RdC at h; rw [hu] at h; exact h
theorem rdC_string (hu : P.underlying t = some .string) (h : RdC P w n t cs) : ∃ s : ByteArray, cs = [.string s] ∧ s.size ≤ maxLen := by
  cases n with
  | zero => exact h.elim
  | succ n => unfold RdC at h; rw [hu] at h; exact h
theorem rdC_slice {e : TypeId} (hu : P.underlying t = some (.slice e)) (h : RdC P w n t cs) : ∃ (s : Slc) (m : Nat), cs = [Slc.v s] ∧ (s = ⟨none, 0, 0⟩ ∨ ∃ a, s.p = some a ∧ s.len ≤ s.cap ∧ s.cap ≤ maxLen ∧
    ∀ i, i < s.len → ∃ cs', cs'.length = P.cellsOf e ∧ (∀ j, j < P.cellsOf e → w.cell? (a.add (i * P.cellsOf e + j)) = cs'[j]?) ∧ RdC P w m e cs') := by
  cases n with
  | zero => exact h.elim
  | succ n =>
    unfold RdC at h
    rw [hu] at h
    obtain ⟨s, h1, h2⟩ := h
    exact ⟨s, n, h1, h2⟩
/-- A slice whose elements are of k cells each: what an element's cells are is told by Q. -/
theorem rdC_elems {e : TypeId} {k : Nat} {α : Type} [Inhabited α] {Q : α → List Value → Prop} (hu : P.underlying t = some (.slice e)) (hk : P.cellsOf e = k) (hQ : ∀ m cs', RdC P w m e cs' → ∃ q, Q q cs') (h : RdC P w n t cs) :
    ∃ (s : Slc) (f : Nat → α), cs = [Slc.v s] ∧ s.len ≤ maxLen ∧ ∀ i, i < s.len → ∃ a cs', s.p = some a ∧ cs'.length = k ∧ (∀ j, j < k → w.cell? (a.add (i * k + j)) = cs'[j]?) ∧ Q (f i) cs' := by
  obtain ⟨s, m, hv, h⟩ := rdC_slice hu h
  rw [hk] at h
  rcases h with rfl | ⟨a, hp, h1, h2, h⟩
  · exact ⟨_, fun _ => default, hv, Nat.zero_le _, fun i hi => by cases hi⟩
  · have h' : ∀ i, ∃ q : α, i < s.len → ∃ cs', cs'.length = k ∧ (∀ j, j < k → w.cell? (a.add (i * k + j)) = cs'[j]?) ∧ Q q cs' := fun i => by
      by_cases hi : i < s.len
      · obtain ⟨cs', hl, hc, hr⟩ := h i hi
        obtain ⟨q, hq⟩ := hQ m cs' hr
        exact ⟨q, fun _ => ⟨cs', hl, hc, hq⟩⟩
      · exact ⟨default, fun hh => absurd hh hi⟩
    refine ⟨s, fun i => Classical.choose (h' i), hv, Nat.le_trans h1 h2, fun i hi => ?_⟩
    obtain ⟨cs', g1, g2, g3⟩ := Classical.choose_spec (h' i) hi
    exact ⟨a, cs', hp, g1, g2, g3⟩
end
theorem rdC_arg_slice {H : Type} {enc : TypeId × Value → H} {P : Program} {W : World} {spare : Nat → Bool} {held : Bool} {t e : TypeId} {v : Value} {d : DataW H} {ps : List MemPlace} {rr : Reach} {b0 : Nat}
    (hu : P.underlying t = some (.slice e)) (h0 : Value.okWide P W rr b0 t v) (h : DataW.Trod enc P W 0 spare held t v d ps) : ∃ n, RdC P W n t [v] := by
  obtain ⟨n, hn⟩ := rdC_Trod h
  obtain ⟨a, len, cap, rfl⟩ := Go.WideShapes.okWide_slice hu h0
  exact ⟨n, hn⟩
theorem cell_lt {w : World} {a : Addr} {v : Value} (h : w.cell? a = some v) : a.block < w.heap.size := by
  unfold World.cell? at h
  rcases Nat.lt_or_ge a.block w.heap.size with h' | h'
  · exact h'
  · rw [Array.getElem?_eq_none h'] at h
    cases h
theorem Ext.cellOf {F : Nat → Prop} {a w : World} (h : Ext F a w) {p : Addr} {v : Value} (hc : a.cell? p = some v) (hn : ¬ F p.block) : w.cell? p = some v := by
  rw [h.cell (cell_lt hc) hn]; exact hc

/-! ### The cells of a struct or an array -/

def isLeaf : TypeDesc → Bool
  | .int _ | .bool | .string | .slice _ | .pointer _ => true
  | _ => false
/-- The type of cell i of a value of type t. -/
def leafAt (P : Program) : Nat → TypeId → Nat → Option TypeId
  | 0, _, _ => none
  | k + 1, t, i => match P.underlying t with
    | some (.struct fs) => match fs.toList.find? (fun f => Nat.ble f.offset i && Nat.blt i (f.offset + P.cellsOf f.type)) with
      | some f => leafAt P k f.type (i - f.offset)
      | none => none
    | some (.array m e) => match Nat.blt (i / P.cellsOf e) m && Nat.blt (i % P.cellsOf e) (P.cellsOf e) with
      | true => leafAt P k e (i % P.cellsOf e)
      | false => none
    | some d => match isLeaf d, i with
      | true, 0 => some t
      | _, _ => none
    | none => none
theorem take_drop_one {α : Type} (l : List α) {o s j : Nat} (hj : j < s) : (((l.drop o).take s).drop j).take 1 = (l.drop (o + j)).take 1 := by
  rw [List.drop_take, List.take_take, List.drop_drop, Nat.min_eq_left (by omega)]
theorem rdC_one {P : Program} {w : World} {n : Nat} {t : TypeId} {cs : List Value} {d : TypeDesc} (hu : P.underlying t = some d) (hd : isLeaf d = true) (h : RdC P w n t cs) : (cs.drop 0).take 1 = cs := by
  cases n with
  | zero => exact h.elim
  | succ n =>
    unfold RdC at h
    rw [hu] at h
    cases d <;> simp only [isLeaf, Bool.false_eq_true] at hd
    all_goals
      obtain ⟨x, h1⟩ := h
      first
        | (subst h1; rfl)
        | (rw [h1.1]; rfl)
theorem rdC_leaf {P : Program} {w : World} : ∀ (k n : Nat) (t : TypeId) (cs : List Value) (i : Nat) (u : TypeId), RdC P w n t cs → leafAt P k t i = some u → ∃ m, RdC P w m u ((cs.drop i).take 1)
  | 0, _, _, _, _, _, _, h => by cases h
  | k + 1, 0, t, cs, i, u, h0, h => h0.elim
  | k + 1, n + 1, t, cs, i, u, h0, h => by
    unfold leafAt at h
    have h1 := h0
    unfold RdC at h1
    split at h
    · rename_i fs hu
      rw [hu] at h1
      split at h
      · rename_i f hf
        obtain ⟨hp, asx, bs, hfs, _⟩ := List.find?_eq_some_iff_append.1 hf
        simp only [Bool.and_eq_true] at hp
        have h2 := Nat.le_of_ble_eq_true hp.1
        have h3 : i < f.offset + P.cellsOf f.type := Nat.le_of_ble_eq_true hp.2
        have hget : fs[asx.length]? = some f := by
          have : fs.toList[asx.length]? = some f := by rw [hfs]; simp
          simpa using this
        obtain ⟨m, hm⟩ := rdC_leaf k n f.type _ (i - f.offset) u (h1.2 _ f hget) h
        rw [take_drop_one _ (by omega), show f.offset + (i - f.offset) = i by omega] at hm
        exact ⟨m, hm⟩
      · cases h
    · rename_i m e hu
      rw [hu] at h1
      split at h
      · rename_i hb
        simp only [Bool.and_eq_true] at hb
        have h2 : i / P.cellsOf e < m := Nat.le_of_ble_eq_true hb.1
        have h3 : i % P.cellsOf e < P.cellsOf e := Nat.le_of_ble_eq_true hb.2
        obtain ⟨m', hm⟩ := rdC_leaf k n e _ (i % P.cellsOf e) u (h1.2 _ h2) h
        rw [take_drop_one _ h3, Nat.div_add_mod' i (P.cellsOf e)] at hm
        exact ⟨m', hm⟩
      · cases h
    · rename_i d _ _ hu
      split at h
      · rename_i hd
        cases h
        exact ⟨n + 1, by rw [rdC_one hu hd h0]; exact h0⟩
      · cases h
    · cases h
theorem take_one {α : Type} {l : List α} {i : Nat} {c : α} (h : l[i]? = some c) : (l.drop i).take 1 = [c] := by
  rw [List.getElem?_eq_some_iff] at h
  obtain ⟨hi, rfl⟩ := h
  rw [List.drop_eq_getElem_cons hi]
  rfl
theorem rdC_len {P : Program} {w : World} {n : Nat} {t : TypeId} {cs : List Value} (ha : isAggD (P.underlying t) = true) (h : RdC P w n t cs) : cs.length = P.cellsOf t := by
  cases n with
  | zero => exact h.elim
  | succ n =>
    unfold RdC at h
    unfold isAggD at ha
    split at ha
    · rename_i fs hu
      rw [hu] at h
      exact h.1
    · rename_i m e hu
      rw [hu] at h
      exact h.1
    · cases ha
section
variable {P : Program} {w : World} {n k i : Nat} {t u : TypeId} {cs : List Value} {c : Value}
theorem leaf_int {q : IntKind} (hl : leafAt P k t i = some u) (hu : P.underlying u = some (.int q)) (h : RdC P w n t cs) (hc : cs[i]? = some c) : ∃ x, c = .int q x ∧ (Lit.int q x).wf = true := by
  obtain ⟨m, hm⟩ := rdC_leaf k n t cs i u h hl
  obtain ⟨x, h1, h2⟩ := rdC_int hu hm
  refine ⟨x, ?_, h2⟩
  rw [take_one hc] at h1
  simpa using h1
theorem leaf_bool (hl : leafAt P k t i = some u) (hu : P.underlying u = some .bool) (h : RdC P w n t cs) (hc : cs[i]? = some c) : ∃ x, c = .bool x := by
  obtain ⟨m, hm⟩ := rdC_leaf k n t cs i u h hl
  obtain ⟨x, h1⟩ := rdC_bool hu hm
  refine ⟨x, ?_⟩
  rw [take_one hc] at h1
  simpa using h1
theorem leaf_string (hl : leafAt P k t i = some u) (hu : P.underlying u = some .string) (h : RdC P w n t cs) (hc : cs[i]? = some c) : ∃ x : ByteArray, c = .string x ∧ x.size ≤ maxLen := by
  obtain ⟨m, hm⟩ := rdC_leaf k n t cs i u h hl
  obtain ⟨x, h1, h2⟩ := rdC_string hu hm
  refine ⟨x, ?_, h2⟩
  rw [take_one hc] at h1
  simpa using h1
/-- A leaf that is a slice. -/
theorem leaf_slice {e : TypeId} (hl : leafAt P k t i = some u) (hu : P.underlying u = some (.slice e)) (h : RdC P w n t cs) (hc : cs[i]? = some c) : ∃ x : Slc, c = Slc.v x ∧ ∃ m, RdC P w m u [c] := by
  obtain ⟨m, hm⟩ := rdC_leaf k n t cs i u h hl
  obtain ⟨x, _, h1, _⟩ := rdC_slice hu hm
  rw [take_one hc] at h1 hm
  exact ⟨x, by simpa using h1, m, hm⟩
end
theorem wf_i64 {n : Int} (h : (Lit.int .i64 n).wf = true) : -9223372036854775808 ≤ n ∧ n ≤ 9223372036854775807 := by
  simpa [Lit.wf, show IntKind.i64.min = -9223372036854775808 by decide, show IntKind.i64.max = 9223372036854775807 by decide] using h
theorem wf_u8 {n : Int} (h : (Lit.int .u8 n).wf = true) : 0 ≤ n ∧ n ≤ 255 := by
  simpa [Lit.wf, show IntKind.u8.min = 0 by decide, show IntKind.u8.max = 255 by decide] using h
theorem wf_u32 {n : Int} (h : (Lit.int .u32 n).wf = true) : 0 ≤ n ∧ n ≤ 4294967295 := by
  simpa [Lit.wf, show IntKind.u32.min = 0 by decide, show IntKind.u32.max = 4294967295 by decide] using h
theorem wf_i32 {n : Int} (h : (Lit.int .i32 n).wf = true) : -2147483648 ≤ n ∧ n ≤ 2147483647 := by
  simpa [Lit.wf, show IntKind.i32.min = -2147483648 by decide, show IntKind.i32.max = 2147483647 by decide] using h
/-- A struct or an array as an argument. -/
theorem rdC_arg_agg {H : Type} {enc : TypeId × Value → H} {P : Program} {W : World} {spare : Nat → Bool} {held : Bool} {t : TypeId} {v : Value} {d : DataW H} {ps : List MemPlace} {rr : Reach} {b0 : Nat}
    (ha : isAggD (P.underlying t) = true) (h0 : Value.okWide P W rr b0 t v) (h : DataW.Trod enc P W 0 spare held t v d ps) : ∃ cs : List Value, v = .agg cs.toArray ∧ cs.length = P.cellsOf t ∧ ∃ n, RdC P W n t cs := by
  obtain ⟨n, hn⟩ := rdC_Trod h
  have hv : ∃ cs : Array Value, v = .agg cs := by
    unfold isAggD at ha
    split at ha
    · rename_i fs hu
      simp only [Value.okWide, hu] at h0
      obtain ⟨cs, h1, _⟩ := h0
      exact ⟨cs, h1⟩
    · rename_i m e hu
      simp only [Value.okWide, hu] at h0
      obtain ⟨cs, h1, _⟩ := h0
      exact ⟨cs, h1⟩
    · cases ha
  obtain ⟨cs, rfl⟩ := hv
  exact ⟨cs.toList, by simp, rdC_len ha hn, n, hn⟩
end Sh
end Go.Proofs.YtpkadliieplblaaDoor
