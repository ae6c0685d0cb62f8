/- What 'append(s, make(n)...)' does to a nil slice; a slice cut to nothing. Conditions: sizes. -/
import Derived.Test.YtapgacggllbhiaaEl
namespace Go.Proofs.Ytapgacggllbhiaa
namespace Sh
set_option linter.unusedVariables false
set_option linter.unusedSimpArgs false
section
variable {P : Program} {t e ti : TypeId} {k B : Nat} {z : Value} {w : World} {ty : TypeId}
theorem El.grow (h : El P t e k B z) (hti : P.underlying ti = some (.int .i64)) {n : Nat} (hn : 0 < n) (hk : 0 < k) (hb : n * B ≤ 140737488355328) (h63 : n ≤ 4611686018427387904) :
    ∃ s' w', RunV P (Builtin.append_ #[t, ti] ty #[Slc.v ⟨none, 0, 0⟩, .int .i64 (n : Int)]) w (Slc.v s') w' ∧ Row w' (s'.cut k 0 0 s'.cap) e k [] ∧ Ext (fun _ => False) w w' ∧ (∀ j, s'.own j → w.heap.size ≤ j) := by
  obtain ⟨i, hi, rfl, rfl, hz⟩ := h.info
  have hge := grownCap_ge w n 0 e
  have hfit : ¬ (281474976710656 < Builtin.nextslicecap n 0 * i.bytes) := by
    have := growslice_fits (need := n) (old := 0) (bytes := i.bytes) hn hb
    omega
  have h6 : ¬ (9223372036854775807 < (n : Int)) := by omega
  have hw : IntKind.i64.wrap (n : Int) = (n : Int) := IntWalk.i64_in n (by omega)
  have hn0 : ¬ (n = 0) := by omega
  have hk0 : ¬ (i.size = 0) := by omega
  have hbytes : ¬ (281474976710656 < (n : Int) * (i.bytes : Int)) := by
    have : ((n * i.bytes : Nat) : Int) ≤ 140737488355328 := by omega
    rw [Int.natCast_mul] at this
    omega
  have hneg : ¬ ((n : Int) < 0) := by omega
  refine ⟨⟨some ⟨w.heap.size, 0, none⟩, n, grownCap w n 0 e⟩, w.drew.alloc (.cells (Builtin.zeroCells z.cells n ++ Builtin.zeroCells z.cells (grownCap w n 0 e - n)) e), ?_, ⟨by simp [Slc.cut], .inr ⟨w.heap.size, _, ?_, Blk.new w.drew _ _, ?_, ?_, ?_⟩⟩, ((Ext.refl _ w).drew).alloc _, fun j hj => ?_⟩
  · simp [RunV, Slc.v, Builtin.append_, run_underlying h.und, run_underlying hti, sizeOf, typeInfo, zeroValue, asInt, asIntOf, hi, hz, hw, hneg, hbytes, hn0, hk0, h6, hfit, Question.forced, run_firstCells_none, newRow, grownCap]
    intro h0
    have := Nat.mul_pos hn hk
    omega
  · show (if grownCap w n 0 e = 0 then some (⟨w.heap.size, 0, none⟩ : Addr) else _) = _
    rw [if_neg (by omega)]
    simp
  · exact Nat.zero_le _
  · show _ = (grownCap w n 0 e - 0) * i.size
    simp only [Array.size_append, size_zeroCells, h.cells]
    rw [← Nat.add_mul]
    congr 1
    omega
  · simp [Slc.cut]
  · obtain ⟨a, ha, rfl⟩ := hj
    cases ha
    exact Nat.le_refl _
end
end Sh
end Go.Proofs.Ytapgacggllbhiaa
