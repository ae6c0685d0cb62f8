/- Rows of elements of any type: append, make, element by element. Conditions: sizes. -/
import Derived.Test.YtpkadliieplblaaDoorAp
import Derived.Laws.MakeOwn
namespace Go.Proofs.YtpkadliieplblaaDoor
namespace Sh
set_option linter.unusedVariables false
set_option linter.unusedSimpArgs false

/-- A slice type t of elements e: k cells and B bytes each, zero value zs. -/
structure El (P : Program) (t e : TypeId) (k B : Nat) (z : Value) : Prop where
  und : P.underlying t = some (.slice e)
  size : (P.info? e).map (·.size) = some k
  bytes : (P.info? e).map (·.bytes) = some B
  zero : (P.info? e).bind (·.zero) = some z
  cells : z.cells.size = k
/-- The cells of a slice's elements can be read. -/
def VRow (w : World) (s : Slc) (k : Nat) (ys : List Value) : Prop := ys.length = s.len * k ∧ ∀ j v, ys[j]? = some v → ∃ a, s.p = some a ∧ w.cell? (a.add j) = some v
theorem VRow.keep {w w' : World} {s : Slc} {k : Nat} {ys : List Value} (h : VRow w s k ys) (he : Ext (fun _ => False) w w') : VRow w' s k ys :=
  ⟨h.1, fun j v hj => by obtain ⟨a, ha, hc⟩ := h.2 j v hj; exact ⟨a, ha, he.cell_same hc⟩⟩
theorem add_block (a : Addr) (n : Nat) : (a.add n).block = a.block := by unfold Addr.add; split <;> (try split) <;> rfl
theorem VRow.keepF {F : Nat → Prop} {w w' : World} {s : Slc} {k : Nat} {ys : List Value} (h : VRow w s k ys) (he : Ext F w w') (hF : ∀ j, s.own j → ¬ F j) : VRow w' s k ys :=
  ⟨h.1, fun j v hj => by
    obtain ⟨a, ha, hc⟩ := h.2 j v hj
    refine ⟨a, ha, ?_⟩
    rw [he.cell (cell_lt' hc) (by rw [add_block]; exact hF _ ⟨a, ha, rfl⟩)]
    exact hc⟩
theorem Row.view {w : World} {s : Slc} {e : TypeId} {k : Nat} {xs : List Value} (h : Row w s e k xs) : VRow w s k xs :=
  ⟨h.1, fun j v hj => by
    obtain ⟨g, hg, hc⟩ := h.cell hj
    exact ⟨_, hg, by rw [add_lit, Nat.zero_add]; exact hc⟩⟩
/-- A row that has just been written. -/
theorem VRow.of {w : World} {b n k : Nat} {cs : List Value} {t : TypeId} (hb : Blk w b cs.toArray t) (hn : cs.length = n * k) : VRow w ⟨some ⟨b, 0, none⟩, n, n⟩ k cs :=
  ⟨hn, fun j v hj => ⟨_, rfl, by rw [add_lit, hb.cell, Nat.zero_add]; simpa using hj⟩⟩
section
variable {P : Program} {t e : TypeId} {k B : Nat} {z : Value} {w : World} {s s2 : Slc} {ty : TypeId} {xs ys : List Value}
theorem El.info (h : El P t e k B z) : ∃ i, P.info? e = some i ∧ i.size = k ∧ i.bytes = B ∧ i.zero = some z := by
  cases hi : P.info? e with
  | none => have := h.size; rw [hi] at this; cases this
  | some i =>
    have h1 := h.size; have h2 := h.bytes; have h3 := h.zero
    rw [hi] at h1 h2 h3
    exact ⟨i, rfl, by simpa using h1, by simpa using h2, by simpa using h3⟩
/-- append(s, s2...). -/
theorem El.app (h : El P t e k B z) (own : Row w s e k xs) (h2 : VRow w s2 k ys) (h1 : ∀ v ∈ ys, v.oneCell' = true) (hb : (s.len + s2.len) * B ≤ 140737488355328) (h63 : s.len + s2.len ≤ 9223372036854775807) :
    ∃ s' w', RunV P (Builtin.append_ #[t, t] ty #[Slc.v s, Slc.v s2]) w (Slc.v s') w' ∧ Row w' s' e k (xs ++ ys) ∧ s'.len = s.len + s2.len ∧ Ext s.own w w' ∧ ∀ j, s'.own j → s.own j ∨ w.heap.size ≤ j := by
  obtain ⟨i, hi, rfl, rfl, hz⟩ := h.info
  refine append_any (P := P) (w := w) (s := s) (t := t) (u := t) (ty := ty) (e := e) (i := i) (z := z) (xs := xs) (news := ys) (x := Slc.v s2) (m := s2.len) h.und (.inl ⟨_, h.und⟩) hi hz h.cells rfl (fun w' hw' => ?_) h2.1 h1 own hb h63
  obtain ⟨p, len, cap⟩ := s2
  cases p with
  | none =>
    have hy : ys = [] := by
      cases ys with
      | nil => rfl
      | cons y r =>
        obtain ⟨a, ha, _⟩ := h2.2 0 y rfl
        cases ha
    subst hy
    have hl := h2.1
    simp only [List.length_nil] at hl
    exact run_firstCells_none (P := P) (w := w') _ _ _ _
  | some a =>
    refine run_firstCells_some w' i.size len a len cap ys h2.1 fun j v hj => ?_
    obtain ⟨a', ha, hc⟩ := h2.2 j v hj
    cases ha
    unfold World.cell? at hc ⊢
    rw [hw']
    exact hc
/-- append(s, x). -/
theorem El.app1 (h : El P t e k B z) {g : Nat} (own : Row w s e k xs) (hg : Blk w g ys.toArray e) (hl : ys.length = k) (h1 : ∀ v ∈ ys, v.oneCell' = true) (hb : (s.len + 1) * B ≤ 140737488355328) (h63 : s.len + 1 ≤ 9223372036854775807) :
    ∃ s' w', RunV P (Builtin.append_ #[t, t] ty #[Slc.v s, Slc.v ⟨some ⟨g, 0, none⟩, 1, 1⟩]) w (Slc.v s') w' ∧ Row w' s' e k (xs ++ ys) ∧ s'.len = s.len + 1 ∧ Ext s.own w w' ∧ ∀ j, s'.own j → s.own j ∨ w.heap.size ≤ j :=
  h.app (s2 := ⟨some ⟨g, 0, none⟩, 1, 1⟩) own (VRow.of hg (by omega)) h1 hb h63
theorem flat_get {zs : List Value} (hk : zs.length = k) : ∀ (c j : Nat), ((List.replicate c zs).flatten)[j]? = if j < c * k then zs[j % k]? else none
  | 0, j => by simp
  | c + 1, j => by
    rw [List.replicate_succ, List.flatten_cons]
    by_cases hj : j < k
    · rw [List.getElem?_append_left (by omega), if_pos (by rw [Nat.add_mul]; omega), Nat.mod_eq_of_lt hj]
    · rw [List.getElem?_append_right (by omega), flat_get hk c (j - zs.length), hk, Nat.add_mul, Nat.one_mul]
      by_cases h2 : j < c * k + k
      · have hm : j % k = (j - k) % k := by
          rw [← Nat.add_mod_right (j - k) k, Nat.sub_add_cancel (by omega)]
        rw [if_pos (by omega), if_pos h2, hm]
      · rw [if_neg (by omega), if_neg h2]
theorem made_list {zs : List Value} (hz : z.cells.toList = zs) (hk : zs.length = k) (c : Nat) : (madeCells z.cells (c * k)).toList = (List.replicate c zs).flatten := by
  have hsz : z.cells.size = k := by rw [← Array.length_toList, hz, hk]
  apply List.ext_getElem?
  intro j
  rw [flat_get hk]
  by_cases hj : j < c * k
  · have hk0 : 0 < k := by
      rcases Nat.eq_zero_or_pos k with h | h
      · subst h; omega
      · exact h
    have hm : j % k < k := Nat.mod_lt _ hk0
    rw [if_pos hj]
    unfold madeCells
    simp only [Array.toList_map, Array.toList_range, List.getElem?_map, List.getElem?_range hj, Option.map_some, hsz]
    rw [← hz, Array.getElem?_toList]
    have : j % k < z.cells.size := by omega
    rw [Array.getElem?_eq_getElem this]
    simp [Array.getElem!_eq_getD, Array.getD, this]
  · rw [if_neg hj, List.getElem?_eq_none]
    rw [Array.length_toList, size_madeCells]
    omega
/-- make. -/
theorem El.make (h : El P t e k B z) {zs : List Value} (hz : z.cells.toList = zs) (w : World) (n : Nat) (hb : B * n ≤ 281474976710656) (h63 : n ≤ 9223372036854775807) :
    ∃ w', RunV P (Instr.makeSlice t (.int .i64 (n : Int)) (.int .i64 (n : Int))) w (Slc.v ⟨some ⟨w.heap.size, 0, none⟩, n, n⟩) w' ∧ w' = w.alloc (.cells ((List.replicate n zs).flatten).toArray e) := by
  obtain ⟨i, hi, rfl, rfl, hzi⟩ := h.info
  have hr := run_make (P := P) w t e i z h.und hi hzi .i64 .i64 n n (by omega) (by omega) (by have h : ((i.bytes * n : Nat) : Int) ≤ 281474976710656 := (by omega); rwa [Int.natCast_mul] at h) (by omega)
  simp only [Int.toNat_natCast] at hr
  have hl := made_list (k := i.size) hz (by rw [← hz, Array.length_toList]; exact h.cells) n
  refine ⟨_, hr, ?_⟩
  rw [← hl]
end
/-- One cell after another of an element is stored. -/
def StL (b : Nat) : Nat → List Value → World → (World → Prop) → Prop
  | _, [], w, K => K w
  | o, v :: vs, w, K => St w ⟨b, o, none⟩ v fun w' => StL b (o + 1) vs w' K
theorem set_at {pre post : List Value} {c v : Value} : (pre ++ c :: post).set pre.length v = pre ++ v :: post := by
  rw [List.set_append_right _ _ (Nat.le_refl _), Nat.sub_self]
  rfl
theorem Hn.stL {w0 : World} {L : List (Nat × List Value × TypeId)} {b : Nat} {t : TypeId} {i : Nat} {K : World → Prop} : ∀ (vs zs pre post : List Value) (o : Nat) (w : World), Hn w0 w L → L[i]? = some (b, pre ++ (zs ++ post), t) → pre.length = o → zs.length = vs.length →
    (∀ w2, Hn w0 w2 (L.set i (b, pre ++ (vs ++ post), t)) → K w2) → StL b o vs w K
  | [], zs, pre, post, o, w, h, hi, ho, hz, k => by
    have : zs = [] := List.eq_nil_of_length_eq_zero hz
    subst this
    have e : L.set i (b, pre ++ ([] ++ post), t) = L := by
      apply List.ext_getElem?
      intro j
      rw [List.getElem?_set]
      split
      · rename_i hij
        subst hij
        rw [if_pos (List.getElem?_eq_some_iff.1 hi).1, hi]
      · rfl
    exact k w (by rw [e]; exact h)
  | v :: vs, [], pre, post, o, w, h, hi, ho, hz, k => by cases hz
  | v :: vs, z :: zs, pre, post, o, w, h, hi, ho, hz, k => by
    refine h.st i hi (by rw [← ho]; simp) fun w2 h2 => ?_
    have e : (pre ++ (z :: zs ++ post)).set o v = (pre ++ [v]) ++ (zs ++ post) := by
      rw [← ho, List.cons_append, set_at]
      simp
    rw [e] at h2
    have hlt : i < L.length := (List.getElem?_eq_some_iff.1 hi).1
    refine Hn.stL vs zs (pre ++ [v]) post (o + 1) w2 h2 (by rw [List.getElem?_set_self hlt]) (by simp [ho]) (by simpa using hz) fun w3 h3 => k w3 ?_
    rw [List.set_set] at h3
    simpa using h3
end Sh
end Go.Proofs.YtpkadliieplblaaDoor
