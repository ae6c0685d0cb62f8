/- An argument that is a list of ints. Condition: none. -/
import Derived.Test.YtapgacggllbhiaaInA
import Derived.Test.YtapgacggllbhiaaRd
namespace Go.Proofs.Ytapgacggllbhiaa
namespace Cd
open Sh Bit Inf
set_option linter.unusedVariables false
set_option linter.unusedSimpArgs false
set_option maxRecDepth 100000
/-- A slice's elements, one more than deep enough: what each is. -/
theorem rdC_slice' {P : Program} {w : World} {n k : Nat} {t e : TypeId} {cs : List Value} {α : Type} [Inhabited α] {Q : α → List Value → Prop} (hu : P.underlying t = some (.slice e)) (hk : P.cellsOf e = k) (h : RdC P w n t cs)
    (hQ : ∀ m cs', cs'.length = k → RdC P w m e cs' → ∃ q, Q q cs') : ∃ (s : Slc) (L : List α), cs = [Slc.v s] ∧ s.len = L.length ∧ L.length ≤ maxLen ∧ ∀ (i : Nat) (q : α), L[i]? = some q → ∃ a cs', s.p = some a ∧ (∀ j, j < k → w.cell? (a.add (i * k + j)) = cs'[j]?) ∧ Q q cs' := by
  obtain ⟨s, m, h1, h2⟩ := rdC_slice hu h
  rcases h2 with rfl | ⟨a, hp, g1, g2, hc⟩
  · exact ⟨_, [], h1, rfl, Nat.zero_le _, fun i q hi => by cases hi⟩
  · rw [hk] at hc
    have h' : ∀ i, ∃ q : α, i < s.len → ∃ cs', (∀ j, j < k → w.cell? (a.add (i * k + j)) = cs'[j]?) ∧ Q q cs' := fun i => by
      by_cases hi : i < s.len
      · obtain ⟨cs', hl, hc, hr⟩ := hc i hi
        obtain ⟨q, hq⟩ := hQ m cs' hl hr
        exact ⟨q, fun _ => ⟨cs', hc, hq⟩⟩
      · exact ⟨default, fun hh => absurd hh hi⟩
    refine ⟨s, (List.range s.len).map fun i => Classical.choose (h' i), h1, by simp, by simp; omega, fun i q hi => ?_⟩
    rw [List.getElem?_map] at hi
    obtain ⟨i', hi1, rfl⟩ := Option.map_eq_some_iff.1 hi
    obtain ⟨hlt, rfl⟩ := List.getElem?_eq_some_iff.1 hi1
    simp only [List.length_range] at hlt
    simp only [List.getElem_range]
    obtain ⟨cs', c1, c2⟩ := Classical.choose_spec (h' i) hlt
    exact ⟨a, cs', hp, c1, c2⟩
theorem undI : Try.prog.underlying 3 = some (.int .i64) := by kernel_rfl
theorem undIs : Try.prog.underlying 22 = some (.slice 3) := by kernel_rfl
theorem int_rd {w : World} {n : Nat} {cs : List Value} (hl : cs.length = 1) (hn : RdC Try.prog w n 3 cs) : ∃ o : Int, cs = [.int .i64 o] := by
  obtain ⟨c0, rfl⟩ : ∃ c0, cs = [c0] := by
    match cs, hl with
    | [c0], _ => exact ⟨c0, rfl⟩
  obtain ⟨x0, rfl, _⟩ := leaf_int (k := 8) (i := 0) (u := 3) (by kernel_rfl) undI hn rfl
  exact ⟨x0, rfl⟩
theorem ints_arg {H : Type} {enc : TypeId × Value → H} {W : World} {spare : Nat → Bool} {held : Bool} {v : Value} {d : DataW H} {ps : List MemPlace} {rr : Reach} {b0 : Nat}
    (h0 : Value.okWide Try.prog W rr b0 22 v) (h : DataW.Trod enc Try.prog W 0 spare held 22 v d ps) : ∃ (s : Slc) (L : List Int), v = Slc.v s ∧ IV W s L := by
  obtain ⟨n, hn⟩ := rdC_arg_slice undIs h0 h
  obtain ⟨s, L, e, l5, m5, g5⟩ := rdC_slice' (Q := fun (o : Int) cs => cs = [.int .i64 o]) undIs (show Try.prog.cellsOf 3 = 1 by kernel_rfl) hn fun m cs' hl h => int_rd hl h
  refine ⟨s, L, by simpa using e, l5, ?_, fun j v hj => ?_⟩
  · rw [ints_len, l5, Nat.mul_one]
  · unfold ints at hj
    rw [List.getElem?_map] at hj
    obtain ⟨o, ho, rfl⟩ := Option.map_eq_some_iff.1 hj
    obtain ⟨a, cs', ha, hc, rfl⟩ := g5 j o ho
    refine ⟨a, ha, ?_⟩
    have := hc 0 (by omega)
    rw [Nat.mul_one, Nat.add_zero] at this
    exact this
end Cd
end Go.Proofs.Ytapgacggllbhiaa
