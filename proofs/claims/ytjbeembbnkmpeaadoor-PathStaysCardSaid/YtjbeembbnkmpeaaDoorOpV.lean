/- Operators as arguments: what their reading tells (the text of State, with no state beside it). No condition. -/
import Derived.Test.YtjbeembbnkmpeaaDoorOpD
import Derived.Test.YtjbeembbnkmpeaaDoorObS
import Derived.Test.YtjbeembbnkmpeaaDoorRd
namespace Go.Proofs.YtjbeembbnkmpeaaDoor
namespace Pat
open Sh Mat Opr
open Go.ChangeShapes Go.WideShapes Go.RowKit
set_option linter.unusedVariables false
set_option linter.unusedSimpArgs false
set_option maxRecDepth 4000
def ob0 (L : List Ob) : Ob := L.getD 0 Mat.ob0
theorem rdC_slS {P : Program} {w : World} {n k : Nat} {t e : TypeId} {cs : List Value} {α : Type} [Inhabited α] {Q : α → List Value → Prop} (hu : P.underlying t = some (.slice e)) (hk : P.cellsOf e = k) (h : RdC P w n t cs)
    (hQ : ∀ m cs', cs'.length = k → RdC P w m e cs' → ∃ q, Q q cs') : ∃ (s : Slc) (L : List α), cs = [Slc.v s] ∧ s.len = L.length ∧ L.length ≤ maxLen ∧ ∀ (i : Nat) (q : α), L[i]? = some q → ∃ a cs', s.p = some a ∧ (∀ j, j < k → w.cell? (a.add (i * k + j)) = cs'[j]?) ∧ Q q cs' := by
  obtain ⟨s, m, h1, h2⟩ := rdC_slice hu h
  rcases h2 with rfl | ⟨a, hp, g1, g2, hc⟩
  · exact ⟨_, [], h1, rfl, Nat.zero_le _, fun i q hi => by cases hi⟩
  · rw [hk] at hc
    have h' : ∀ i, ∃ q : α, i < s.len → ∃ cs', (∀ j, j < k → w.cell? (a.add (i * k + j)) = cs'[j]?) ∧ Q q cs' := fun i => by
      by_cases hi : i < s.len
      · obtain ⟨cs', hl, hc, hr⟩ := hc i hi
        obtain ⟨q, hq⟩ := hQ m cs' hl hr
        exact ⟨q, fun _ => ⟨cs', hc, hq⟩⟩
      · exact ⟨default, fun hh => absurd hh hi⟩
    refine ⟨s, (List.range s.len).map fun i => Classical.choose (h' i), h1, by simp, by simp; omega, fun i q hi => ?_⟩
    rw [List.getElem?_map] at hi
    obtain ⟨i', hi1, rfl⟩ := Option.map_eq_some_iff.1 hi
    obtain ⟨hlt, rfl⟩ := List.getElem?_eq_some_iff.1 hi1
    simp only [List.length_range] at hlt
    simp only [List.getElem_range]
    obtain ⟨cs', c1, c2⟩ := Classical.choose_spec (h' i) hlt
    exact ⟨a, cs', hp, c1, c2⟩
abbrev OpT : Type := ByteArray × Slc × ByteArray
def oprow (o : OpT) : List Value := [.string o.1, Slc.v o.2.1, .string o.2.2]
/-- An operator and its operands. -/
abbrev OpA : Type := OpT × List Ob
def OpOk (w : World) (q : OpA) : Prop := q.1.1.size ≤ maxLen ∧ ∃ n, q.2.length ≤ maxLen ∧ OV w q.1.2.1 q.2 ∧ ∀ o ∈ q.2, OT w n o
/-- The operators of a slice. -/
structure OpsV (w : World) (s : Slc) (P : List OpA) : Prop where
  len : s.len = P.length
  most : P.length ≤ maxLen
  at' : ∀ (i : Nat) (q : OpA), P[i]? = some q → ∃ a, s.p = some a ∧ w.cell? (a.add (i * 3)) = some (.string q.1.1) ∧ w.cell? ((a.add (i * 3)).add 1) = some (Slc.v q.1.2.1) ∧ w.cell? ((a.add (i * 3)).add 2) = some (.string q.1.2.2)
  ok : ∀ q ∈ P, OpOk w q
theorem maxLen_le : maxLen ≤ 9223372036854775807 := by decide
theorem OpOk.kids {w : World} {q : OpA} (h : OpOk w q) : ∃ K, OV w (ob0 q.2).2.2.2.2.2 K ∧ K.length ≤ 9223372036854775807 := by
  obtain ⟨_, n, _, hov, hot⟩ := h
  have hm := maxLen_le
  cases hq : q.2 with
  | nil => exact ⟨[], ⟨rfl, rfl, fun j v h => by cases h⟩, by simp⟩
  | cons o L =>
    have ho := hot o (by rw [hq]; exact List.mem_cons_self ..)
    cases n with
    | zero => exact ho.elim
    | succ n =>
      obtain ⟨_, K, h1, h2, _⟩ := ho
      exact ⟨K, h2, by omega⟩
theorem op_fields : fieldsAt Tryd.prog 63 = some [(0, 9), (1, 60), (2, 9)] := by kernel_rfl
theorem op_rd {w : World} {n : Nat} {cs : List Value} (h : RdC Tryd.prog w n 63 cs) : ∃ q : OpA, cs = oprow q.1 ∧ OpOk w q := by
  obtain ⟨hl, m, hf⟩ := rdC_struct op_fields h
  rw [show Tryd.prog.cellsOf 63 = 3 by kernel_rfl] at hl
  obtain ⟨c0, c1, c2, rfl⟩ : ∃ c0 c1 c2, cs = [c0, c1, c2] := by
    match cs, hl with
    | [c0, c1, c2], _ => exact ⟨c0, c1, c2, rfl⟩
  have f0 := hf 0 0 9 rfl
  have f1 := hf 1 1 60 rfl
  have f2 := hf 2 2 9 rfl
  rw [show Tryd.prog.cellsOf 9 = 1 by kernel_rfl] at f0 f2
  rw [show Tryd.prog.cellsOf 60 = 1 by kernel_rfl] at f1
  obtain ⟨x0, e0, z0⟩ := rdC_string Tryd.underlying9 f0
  obtain ⟨x2, e2, _⟩ := rdC_string Tryd.underlying9 f2
  cases m with
  | zero => exact f1.elim
  | succ m =>
    have : Inhabited Ob := ⟨Mat.ob0⟩
    obtain ⟨x1, L, e1, l1, m1, g1⟩ := rdC_slice' (Q := fun (o : Ob) cs => cs = obrow o ∧ OT w m o) Tryd.underlying60 (show Tryd.prog.cellsOf 81 = 6 by kernel_rfl) f1 fun cs' h => ob_rd m cs' h
    obtain rfl : c0 = .string x0 := by simpa using e0
    obtain rfl : c1 = Slc.v x1 := by simpa using e1
    obtain rfl : c2 = .string x2 := by simpa using e2
    refine ⟨((x0, x1, x2), L), rfl, z0, m, m1, ⟨l1, by rw [obs_len, l1], fun j v hj => ?_⟩, fun o' ho => ?_⟩
    · have hjl : j < L.length * 6 := by
        rw [← obs_len]
        exact (List.getElem?_eq_some_iff.1 hj).1
      have hi : j / 6 < L.length := by omega
      have hjj : j = j / 6 * 6 + j % 6 := by omega
      have hLi : L[j / 6]? = some L[j / 6] := List.getElem?_eq_getElem hi
      obtain ⟨a, cs', ha, hc, rfl, _⟩ := g1 _ _ hLi
      refine ⟨a, ha, ?_⟩
      have h1 := hc (j % 6) (by omega)
      rw [hjj] at hj ⊢
      rw [obs_get hLi (by omega)] at hj
      rw [h1]
      exact hj
    · obtain ⟨i, hi, rfl⟩ := List.mem_iff_getElem.1 ho
      obtain ⟨_, _, _, _, _, h⟩ := g1 i _ (List.getElem?_eq_getElem hi)
      exact h
theorem und_ops : Tryd.prog.underlying 84 = some (.slice 63) := by kernel_rfl
theorem ops_arg {H : Type} {enc : TypeId × Value → H} {W : World} {spare : Nat → Bool} {held : Bool} {v : Value} {d : DataW H} {ps : List MemPlace} {rr : Reach} {b0 : Nat}
    (h0 : Value.okWide Tryd.prog W rr b0 84 v) (h : DataW.Trod enc Tryd.prog W 0 spare held 84 v d ps) : ∃ (s : Slc) (P : List OpA), v = Slc.v s ∧ OpsV W s P := by
  obtain ⟨n, hn⟩ := rdC_arg_slice und_ops h0 h
  have : Inhabited OpA := ⟨((⟨#[]⟩, nilS, ⟨#[]⟩), [])⟩
  obtain ⟨s, L, e, l5, m5, g5⟩ := rdC_slS (Q := fun (q : OpA) cs => cs = oprow q.1 ∧ OpOk W q) und_ops (show Tryd.prog.cellsOf 63 = 3 by kernel_rfl) hn fun m cs' hl h => op_rd h
  refine ⟨s, L, by simpa using e, l5, m5, fun i q hi => ?_, fun q hq => ?_⟩
  · obtain ⟨a, cs', ha, hc, rfl, _⟩ := g5 i q hi
    have h0 := hc 0 (by omega)
    have h1 := hc 1 (by omega)
    have h2 := hc 2 (by omega)
    refine ⟨a, ha, h0, ?_, ?_⟩
    · rw [add_add']
      exact h1
    · rw [add_add']
      exact h2
  · obtain ⟨i, hi, rfl⟩ := List.mem_iff_getElem.1 hq
    obtain ⟨_, _, _, _, _, h⟩ := g5 i _ (List.getElem?_eq_getElem hi)
    exact h
theorem OpsV.get' {w0 : World} {s : Slc} {Q : List OpA} (h : OpsV w0 s Q) {i : Nat} (hi : i < Q.length) : ∃ a q, s.p = some a ∧ OpOk w0 q ∧ Q[i]? = some q ∧ ∀ w, Ext (fun _ => False) w0 w → w.cell? (a.add (i * 3)) = some (.string q.1.1) ∧ w.cell? ((a.add (i * 3)).add 1) = some (Slc.v q.1.2.1) ∧ w.cell? ((a.add (i * 3)).add 2) = some (.string q.1.2.2) := by
  have hq : Q[i]? = some Q[i] := List.getElem?_eq_getElem hi
  obtain ⟨a, ha, c0, c1, c2⟩ := h.at' i _ hq
  exact ⟨a, Q[i], ha, h.ok _ (List.getElem_mem hi), hq, fun w E => ⟨E.cell_same c0, E.cell_same c1, E.cell_same c2⟩⟩
end Pat
end Go.Proofs.YtjbeembbnkmpeaaDoor
