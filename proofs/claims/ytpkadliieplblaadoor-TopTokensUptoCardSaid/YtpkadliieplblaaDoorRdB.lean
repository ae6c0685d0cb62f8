/- What an argument's reading tells, with its bulk. No condition. -/
import Derived.Test.YtpkadliieplblaaDoorRd
import Derived.Test.YtpkadliieplblaaDoorRows
namespace Go.Proofs.YtpkadliieplblaaDoor
namespace Sh
set_option linter.unusedVariables false
/-- As RdC, with the bulk. -/
def RdB (P : Program) (w : World) : Nat → TypeId → List Value → Nat → Prop
  | 0, _, _, _ => False
  | n + 1, t, cs, b => match P.underlying t with
    | some (.int k) => ∃ x, cs = [.int k x] ∧ (Lit.int k x).wf = true
    | some .bool => ∃ x, cs = [.bool x]
    | some .string => ∃ s : ByteArray, cs = [.string s] ∧ s.size ≤ maxLen ∧ s.size < b
    | some (.slice e) => ∃ s : Slc, cs = [Slc.v s] ∧ (s = ⟨none, 0, 0⟩ ∨ ∃ (a : Addr) (bs : List Nat), s.p = some a ∧ s.len ≤ s.cap ∧ s.cap ≤ maxLen ∧ bs.length = s.len ∧ bs.sum < b ∧ s.len < b ∧
        ∀ i x, bs[i]? = some x → ∃ cs', cs'.length = P.cellsOf e ∧ (∀ j, j < P.cellsOf e → w.cell? (a.add (i * P.cellsOf e + j)) = cs'[j]?) ∧ RdB P w n e cs' x)
    | some (.struct fs) => cs.length = P.cellsOf t ∧ ∃ bs : List Nat, bs.sum < b ∧ ∀ (i : Nat) (f : Field), fs[i]? = some f → ∃ x, bs[i]? = some x ∧ RdB P w n f.type ((cs.drop f.offset).take (P.cellsOf f.type)) x
    | some (.array _ _) => False
    | some (.pointer _) => False
    | _ => True
theorem bulk_all {H : Type} (l : List (DataW H × List MemPlace)) : Rows.uptoBulkAll (l.map (·.1)) = (l.map fun x => Rows.uptoBulk x.1).sum := by
  induction l with
  | nil => simp [Rows.uptoBulkAll]
  | cons x l ih => simp only [List.map_cons, Rows.uptoBulkAll, List.sum_cons, ih]
theorem bulk_one {H : Type} (d : DataW H) : 1 ≤ Rows.uptoBulk d := by
  cases d with
  | lit l => cases l <;> simp [Rows.uptoBulk]
  | nil => simp [Rows.uptoBulk]
  | ptr d => simp [Rows.uptoBulk]
  | slice elems spare => simp [Rows.uptoBulk]
  | agg parts => simp [Rows.uptoBulk]
  | iface t d => simp [Rows.uptoBulk]
  | map entries => simp [Rows.uptoBulk]
  | held h => simp [Rows.uptoBulk]
theorem bulk_len {H : Type} (l : List (DataW H × List MemPlace)) : l.length ≤ (l.map fun x => Rows.uptoBulk x.1).sum := by
  induction l with
  | nil => simp
  | cons x l ih => have := bulk_one x.1; simp only [List.map_cons, List.sum_cons, List.length_cons]; omega
/-- No arrays, no pointers on the way: the types that are read with their bulk. -/
def flatT (P : Program) : Nat → TypeId → Bool
  | 0, _ => false
  | n + 1, t => match P.underlying t with
    | some (.slice e) => flatT P n e
    | some (.struct fs) => fs.toList.all fun f => flatT P n f.type
    | some (.array _ _) => false
    | some (.pointer _) => false
    | _ => true
theorem rdB_of {H : Type} {enc : TypeId × Value → H} {P : Program} {w : World} {spare : Nat → Bool} {held : Bool} : ∀ (n m : Nat) (t : TypeId) (cs : List Value) (x : DataW H × List MemPlace), flatT P m t = true →
    DataW.trod enc P w 0 spare held n t cs = some x → RdB P w n t cs (Rows.uptoBulk x.1)
  | 0, m, t, cs, x, _, h => by simp [DataW.trod] at h
  | n + 1, 0, t, cs, x, hf, h => by simp [flatT] at hf
  | n + 1, m + 1, t, cs, x, hfl, h => by
    unfold flatT at hfl
    unfold RdB
    split
    · rename_i k ht
      obtain ⟨y, h1, _, h2⟩ := DataW.trod_int ht h
      exact ⟨y, h1, h2⟩
    · rename_i ht
      obtain ⟨y, h1, _⟩ := DataW.trod_bool ht h
      exact ⟨y, h1⟩
    · rename_i ht
      obtain ⟨y, h1, hx, h2⟩ := DataW.trod_string ht h
      refine ⟨y, h1, h2, ?_⟩
      rw [hx]
      simp only [Rows.uptoBulk]
      rw [← size_list]
      exact Nat.lt_succ_self _
    · rename_i e ht
      rw [ht] at hfl
      rcases DataW.trod_slice ht h with ⟨h0, _⟩ | ⟨a, len, cap, elems, rest, k, hk, hcs, hx, _, hl, hc, hel, hi, _⟩
      · exact ⟨⟨none, 0, 0⟩, h0, .inl rfl⟩
      · cases hk
        have hb : Rows.uptoBulk x.1 = (elems.map fun x => Rows.uptoBulk x.1).sum + Rows.uptoBulkAll (rest.map (·.1)) + 1 := by
          rw [hx]
          simp only [Rows.uptoBulk]
          rw [bulk_all]
        have hl2 := bulk_len elems
        refine ⟨⟨some a, len, cap⟩, hcs, .inr ⟨a, elems.map fun x => Rows.uptoBulk x.1, rfl, hl, hc, by rw [List.length_map, hel], by omega, by show len < _; omega, fun i b hb => ?_⟩⟩
        rw [List.getElem?_map] at hb
        obtain ⟨y, hy, rfl⟩ := Option.map_eq_some_iff.1 hb
        have hil : i < len := by have := (List.getElem?_eq_some_iff.1 hy).1; omega
        have h2 := (hi i hil).trans hy
        obtain ⟨cs', h3, h4⟩ := Option.bind_eq_some_iff.1 h2
        obtain ⟨_, h5, h6⟩ := World.cells?_some h3
        exact ⟨cs', h5, fun j hj => by rw [← add_add']; exact h6 j hj, rdB_of n m e cs' _ hfl h4⟩
    · rename_i fs ht
      rw [ht] at hfl
      obtain ⟨xs, k, hk, hx, hl, hxl, hf⟩ := DataW.trod_struct ht h
      cases hk
      have hb : Rows.uptoBulk x.1 = (xs.map fun x => Rows.uptoBulk x.1).sum + 1 := by
        rw [hx]
        simp only [Rows.uptoBulk]
        rw [bulk_all]
      refine ⟨hl, xs.map fun x => Rows.uptoBulk x.1, by omega, fun i f hfi => ?_⟩
      have hlt : i < fs.size := (Array.getElem?_eq_some_iff.1 hfi).1
      have hlx : i < xs.length := by rw [hxl]; exact hlt
      have hmem : f ∈ fs.toList := List.mem_of_getElem? (i := i) (by simpa using hfi)
      refine ⟨Rows.uptoBulk (xs[i]).1, by rw [List.getElem?_map, List.getElem?_eq_getElem hlx]; rfl, rdB_of n m f.type _ _ (List.all_eq_true.1 hfl f hmem) ((hf i f hfi).trans (List.getElem?_eq_getElem hlx))⟩
    · rename_i a b ht
      rw [ht] at hfl
      cases hfl
    · rename_i a ht
      rw [ht] at hfl
      cases hfl
    · trivial
theorem rdB_Trod {H : Type} {enc : TypeId × Value → H} {P : Program} {w : World} {spare : Nat → Bool} {held : Bool} {t : TypeId} {v : Value} {d : DataW H} {ps : List MemPlace} {m : Nat} (hf : flatT P m t = true)
    (h : DataW.Trod enc P w 0 spare held t v d ps) : ∃ n, RdB P w n t v.cells.toList (Rows.uptoBulk d) := by
  obtain ⟨n, hn⟩ := h
  exact ⟨n, rdB_of n m t _ _ hf hn⟩
theorem RdB.up {P : Program} {w : World} : ∀ {n : Nat} {t : TypeId} {cs : List Value} {b : Nat}, RdB P w n t cs b → RdC P w n t cs
  | 0, t, cs, b, h => h.elim
  | n + 1, t, cs, b, h => by
    unfold RdB at h
    unfold RdC
    split
    · rename_i k ht; rw [ht] at h; exact h
    · rename_i ht; rw [ht] at h; exact h
    · rename_i ht
      rw [ht] at h
      obtain ⟨s, h1, h2, _⟩ := h
      exact ⟨s, h1, h2⟩
    · rename_i e ht
      rw [ht] at h
      obtain ⟨s, h1, h2⟩ := h
      refine ⟨s, h1, ?_⟩
      rcases h2 with h2 | ⟨a, bs, h2, h3, h4, h5, _, _, h6⟩
      · exact .inl h2
      · refine .inr ⟨a, h2, h3, h4, fun i hi => ?_⟩
        obtain ⟨cs', k1, k2, k3⟩ := h6 i bs[i] (List.getElem?_eq_getElem (by omega))
        exact ⟨cs', k1, k2, k3.up⟩
    · rename_i fs ht
      rw [ht] at h
      obtain ⟨h1, bs, _, h2⟩ := h
      refine ⟨h1, fun i f hf => ?_⟩
      obtain ⟨x, _, h3⟩ := h2 i f hf
      exact h3.up
    · rename_i ht; rw [ht] at h; exact h.elim
    · rename_i ht; rw [ht] at h; exact h.elim
    · trivial
section
variable {P : Program} {w : World} {n b : Nat} {t : TypeId} {cs : List Value}
theorem rdB_string (hu : P.underlying t = some .string) (h : RdB P w n t cs b) : ∃ s : ByteArray, cs = [.string s] ∧ s.size ≤ maxLen ∧ s.size < b := by
  cases n with
  | zero => exact h.elim
  | succ n => unfold RdB at h; rw [hu] at h; exact h
theorem rdB_slice {e : TypeId} (hu : P.underlying t = some (.slice e)) (h : RdB P w n t cs b) : ∃ (s : Slc) (m : Nat), cs = [Slc.v s] ∧ (s = ⟨none, 0, 0⟩ ∨ ∃ (a : Addr) (bs : List Nat), s.p = some a ∧ s.len ≤ s.cap ∧ s.cap ≤ maxLen ∧ bs.length = s.len ∧ bs.sum < b ∧ s.len < b ∧
    ∀ i x, bs[i]? = some x → ∃ cs', cs'.length = P.cellsOf e ∧ (∀ j, j < P.cellsOf e → w.cell? (a.add (i * P.cellsOf e + j)) = cs'[j]?) ∧ RdB P w m e cs' x) := by
  cases n with
  | zero => exact h.elim
  | succ n =>
    unfold RdB at h
    rw [hu] at h
    obtain ⟨s, h1, h2⟩ := h
    exact ⟨s, n, h1, h2⟩
theorem rdB_struct {L : List (Nat × TypeId)} (hL : fieldsAt P t = some L) (h : RdB P w n t cs b) : cs.length = P.cellsOf t ∧ ∃ (m : Nat) (bs : List Nat), bs.sum < b ∧ ∀ (i o : Nat) (u : TypeId), L[i]? = some (o, u) → ∃ x, bs[i]? = some x ∧ RdB P w m u ((cs.drop o).take (P.cellsOf u)) x := by
  cases n with
  | zero => exact h.elim
  | succ n =>
    unfold RdB at h
    unfold fieldsAt at hL
    split at hL
    · rename_i fs hu
      rw [hu] at h
      cases hL
      obtain ⟨h1, bs, h2, h3⟩ := h
      refine ⟨h1, n, bs, h2, fun i o u hi => ?_⟩
      rw [List.getElem?_map] at hi
      obtain ⟨f, g1, g2⟩ := Option.map_eq_some_iff.1 hi
      cases g2
      exact h3 i f (by simpa using g1)
    · cases hL
end
theorem rdB_arg_slice {H : Type} {enc : TypeId × Value → H} {P : Program} {W : World} {spare : Nat → Bool} {held : Bool} {t e : TypeId} {v : Value} {d : DataW H} {ps : List MemPlace} {rr : Reach} {b0 m : Nat}
    (hf : flatT P m t = true) (hu : P.underlying t = some (.slice e)) (h0 : Value.okWide P W rr b0 t v) (h : DataW.Trod enc P W 0 spare held t v d ps) : ∃ n, RdB P W n t [v] (Rows.uptoBulk d) := by
  obtain ⟨n, hn⟩ := rdB_Trod hf h
  obtain ⟨a, len, cap, rfl⟩ := Go.WideShapes.okWide_slice hu h0
  exact ⟨n, hn⟩
theorem sum_get_le : ∀ {bs : List Nat} {i x : Nat}, bs[i]? = some x → x ≤ bs.sum
  | [], i, x, h => by simp at h
  | y :: bs, 0, x, h => by simp at h; subst h; simp
  | y :: bs, i + 1, x, h => by
    have := sum_get_le (bs := bs) (i := i) (x := x) (by simpa using h)
    simp only [List.sum_cons]
    omega
end Sh
end Go.Proofs.YtpkadliieplblaaDoor
