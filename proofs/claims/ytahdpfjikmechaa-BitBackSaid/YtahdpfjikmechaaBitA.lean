/- The lists of calls that the laws on package bit take; BitReads and BitNone. Condition of BitReads: none but that the list can be read. -/
import Derived.Test.YtahdpfjikmechaaBitL
import Derived.Test.YtahdpfjikmechaaRd
namespace Go.Proofs.Ytahdpfjikmechaa
namespace Bit
open Sh
set_option linter.unusedVariables false
set_option linter.unusedSimpArgs false

/-- The list of calls lies in the world. -/
def Asks (w : World) (l : Slc) (f : Nat → Ask) : Prop := ∀ i, i < l.len → ∃ a, l.p = some a ∧ w.cell? (a.add (i * 4)) = some (.int .i64 (f i).d) ∧ w.cell? (a.add (i * 4 + 1)) = some (.int .i64 (f i).n) ∧
  w.cell? (a.add (i * 4 + 2)) = some (.int .i64 (f i).v) ∧ w.cell? (a.add (i * 4 + 3)) = some (.string (f i).s)
theorem Asks.keep {w w' : World} {l : Slc} {f : Nat → Ask} (h : Asks w l f) (he : Ext (fun _ => False) w w') : Asks w' l f := fun i hi => by
  obtain ⟨a, ha, h1, h2, h3, h4⟩ := h i hi
  exact ⟨a, ha, he.cellOf h1 id, he.cellOf h2 id, he.cellOf h3 id, he.cellOf h4 id⟩

theorem und_asks : Try.prog.underlying 29 = some (.slice 35) := by kernel_rfl
theorem size_ask : Try.prog.cellsOf 35 = 4 := by kernel_rfl
theorem size_int : Try.prog.cellsOf 3 = 1 := by kernel_rfl
theorem size_string : Try.prog.cellsOf 9 = 1 := by kernel_rfl
theorem und_int : Try.prog.underlying 3 = some (.int .i64) := by kernel_rfl
theorem fields_ask : fieldsAt Try.prog 35 = some [(0, 3), (1, 3), (2, 3), (3, 9)] := by kernel_rfl
instance : Inhabited Ask := ⟨⟨0, 0, 0, ⟨#[]⟩⟩⟩
theorem rd_ask {w : World} (n : Nat) (cs : List Value) (h : RdC Try.prog w n 35 cs) : ∃ q : Ask, cs = [.int .i64 q.d, .int .i64 q.n, .int .i64 q.v, .string q.s] := by
  obtain ⟨hl, m, hf⟩ := rdC_struct fields_ask h
  rw [size_ask] at hl
  obtain ⟨d, hd, _⟩ := rdC_int und_int (hf 0 0 3 rfl)
  obtain ⟨k, hk, _⟩ := rdC_int und_int (hf 1 1 3 rfl)
  obtain ⟨v, hv, _⟩ := rdC_int und_int (hf 2 2 3 rfl)
  obtain ⟨s, hs, _⟩ := rdC_string und_string (hf 3 3 9 rfl)
  rw [size_int] at hd hk hv
  rw [size_string] at hs
  clear hf h
  obtain ⟨c0, c1, c2, c3, rfl⟩ := list4 hl
  clear hl
  simp at hd hk hv hs
  exact ⟨⟨d, k, v, s⟩, by rw [hd, hk, hv, hs]⟩
set_option maxRecDepth 20000 in
theorem asks_arg {H : Type} {enc : TypeId × Value → H} {W : World} {spare : Nat → Bool} {held : Bool} {v : Value} {d : DataW H} {ps : List MemPlace} {rr : Reach} {b0 : Nat}
    (h0 : Value.okWide Try.prog W rr b0 29 v) (h : DataW.Trod enc Try.prog W 0 spare held 29 v d ps) : ∃ (l : Slc) (f : Nat → Ask), v = Slc.v l ∧ Asks W l f := by
  obtain ⟨n, hn⟩ := rdC_arg_slice und_asks h0 h
  obtain ⟨l, f, hv, _, hf⟩ := rdC_elems und_asks size_ask rd_ask hn
  refine ⟨l, f, by simpa using hv, fun i hi => ?_⟩
  obtain ⟨a, cs', hp, _, hc, rfl⟩ := hf i hi
  exact ⟨a, hp, hc 0 (by omega), hc 1 (by omega), hc 2 (by omega), hc 3 (by omega)⟩
end Bit
end Go.Proofs.Ytahdpfjikmechaa
