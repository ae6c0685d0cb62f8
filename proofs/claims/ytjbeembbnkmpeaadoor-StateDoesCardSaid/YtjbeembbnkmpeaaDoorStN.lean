/- Graphics states as arguments; the table of spaces from the laid variables. Condition: the rows' own list. -/
import Derived.Test.YtjbeembbnkmpeaaDoorRows
import Derived.Test.YtjbeembbnkmpeaaDoorStM
import Derived.Test.YtjbeembbnkmpeaaDoorRd
import Derived.WalkKit
import Derived.ProofKit
import Derived.OpenShut
import Derived.Deep.DeepHandedRow
import Derived.Lib.LaidTab
import Derived.LaidMore
import Derived.ChangeSame
namespace Go.Proofs.YtjbeembbnkmpeaaDoor
namespace Ste
open Sh Mat Opr
open Go.ChangeShapes Go.WideShapes Go.ChangeAt Go.RowKit
set_option linter.unusedVariables false
set_option linter.unusedSimpArgs false
set_option maxRecDepth 100000
theorem gAS : Tryd.prog.globalNamed "strings.asciiSpace" = some 1 := by kernel_rfl
theorem tAS : (Tryd.prog.globals[1]?).map (·.type) = some 248 := by kernel_rfl
theorem undU8 : Tryd.prog.underlying 5 = some (.int .u8) := by kernel_rfl
theorem und256 : Tryd.prog.underlying 248 = some (.array 256 5) := by kernel_rfl
theorem cU8 : Tryd.prog.cellsOf 5 = 1 := by kernel_rfl
theorem c256 : Tryd.prog.cellsOf 248 = 256 := by kernel_rfl
def zsA : List Int := (List.range 256).map fun c => if spB (UInt8.ofNat c) = true then 1 else 0
theorem zsA_laid : (Rows.laid_strings_asciiSpace : DataW Unit) = Lib.tabData .u8 zsA := by kernel_rfl
theorem of_laid {W : World} (h : laidMetH Tryd.prog Rows.stateSameRow.laid W) : AS W ∧ 1 < W.heap.size := by
  have h : laidMetH Tryd.prog [("unicode.White_Space", Rows.laid_unicode_White_Space), ("strings.asciiSpace", Rows.laid_strings_asciiSpace)] W := h
  rw [MakeChecks.laidMetH_plain _ _ _ (by kernel_rfl)] at h
  obtain ⟨ps, ⟨g0, t0, cs0, f0, p0, q0, hg0, ht0, hv0, hd0, ⟨g1, t1, cs1, f1, p1, q1, hg1, ht1, hv1, hd1, _, _⟩, _⟩, _, _⟩ := h
  obtain rfl := Option.some.inj (gAS.symm.trans hg1)
  obtain rfl := Option.some.inj (tAS.symm.trans ht1)
  rw [zsA_laid] at hd1
  have hcs := Lib.cells_of_tab und256 undU8 cU8 c256 hd1
  have hcell : ∀ c : Nat, c < 256 → W.cell? ⟨1, c, none⟩ = some (.int .u8 (if spB (UInt8.ofNat c) = true then 1 else 0)) := fun c hc => by
    have := World.var?_cell hg1 hv1 c
    rw [this, ← Array.getElem?_toList, hcs]
    unfold zsA
    rw [List.getElem?_map, List.getElem?_map, List.getElem?_range hc]
    rfl
  exact ⟨hcell, cell_lt' (hcell 0 (by omega))⟩
theorem undI64 : Tryd.prog.underlying 2 = some (.int .i64) := by kernel_rfl
theorem undInt : Tryd.prog.underlying 3 = some (.int .i64) := by kernel_rfl
theorem undStr : Tryd.prog.underlying 9 = some .string := by kernel_rfl
theorem undI64s : Tryd.prog.underlying 24 = some (.slice 2) := by kernel_rfl
theorem rdC_slS {P : Program} {w : World} {n k : Nat} {t e : TypeId} {cs : List Value} {α : Type} [Inhabited α] {Q : α → List Value → Prop} (hu : P.underlying t = some (.slice e)) (hk : P.cellsOf e = k) (h : RdC P w n t cs)
    (hQ : ∀ m cs', cs'.length = k → RdC P w m e cs' → ∃ q, Q q cs') : ∃ (s : Slc) (L : List α), cs = [Slc.v s] ∧ s.len = L.length ∧ L.length ≤ maxLen ∧ ∀ (i : Nat) (q : α), L[i]? = some q → ∃ a cs', s.p = some a ∧ (∀ j, j < k → w.cell? (a.add (i * k + j)) = cs'[j]?) ∧ Q q cs' := by
  obtain ⟨s, m, h1, h2⟩ := rdC_slice hu h
  rcases h2 with rfl | ⟨a, hp, g1, g2, hc⟩
  · exact ⟨_, [], h1, rfl, Nat.zero_le _, fun i q hi => by cases hi⟩
  · rw [hk] at hc
    have h' : ∀ i, ∃ q : α, i < s.len → ∃ cs', (∀ j, j < k → w.cell? (a.add (i * k + j)) = cs'[j]?) ∧ Q q cs' := fun i => by
      by_cases hi : i < s.len
      · obtain ⟨cs', hl, hc, hr⟩ := hc i hi
        obtain ⟨q, hq⟩ := hQ m cs' hl hr
        exact ⟨q, fun _ => ⟨cs', hc, hq⟩⟩
      · exact ⟨default, fun hh => absurd hh hi⟩
    refine ⟨s, (List.range s.len).map fun i => Classical.choose (h' i), h1, by simp, by simp; omega, fun i q hi => ?_⟩
    rw [List.getElem?_map] at hi
    obtain ⟨i', hi1, rfl⟩ := Option.map_eq_some_iff.1 hi
    obtain ⟨hlt, rfl⟩ := List.getElem?_eq_some_iff.1 hi1
    simp only [List.length_range] at hlt
    simp only [List.getElem_range]
    obtain ⟨cs', c1, c2⟩ := Classical.choose_spec (h' i) hlt
    exact ⟨a, cs', hp, c1, c2⟩
theorem int_rdS {n : Nat} {w : World} {cs : List Value} (hl : cs.length = 1) (h : RdC Tryd.prog w n 2 cs) : ∃ q : Int, cs = [.int .i64 q] := by
  obtain ⟨x, h1, _⟩ := rdC_int undI64 h
  exact ⟨x, h1⟩
theorem gr_arg {H : Type} {enc : TypeId × Value → H} {W : World} {spare : Nat → Bool} {held : Bool} {v : Value} {d : DataW H} {ps : List MemPlace} {rr : Reach} {b0 : Nat}
    (h0 : Value.okWide Tryd.prog W rr b0 30 v) (h : DataW.Trod enc Tryd.prog W 0 spare held 30 v d ps) : ∃ (x : G) (D : List Int), v = .agg (Sig.cells LG x).toArray ∧ IV W (dsh x) D := by
  obtain ⟨cs, rfl, hl, n, hn⟩ := rdC_arg_agg (by kernel_rfl) h0 h
  rw [show Tryd.prog.cellsOf 30 = 30 by kernel_rfl] at hl
  obtain ⟨c0, c1, c2, c3, c4, c5, c6, c7, c8, c9, c10, c11, c12, c13, c14, c15, c16, c17, c18, c19, c20, c21, c22, c23, c24, c25, c26, c27, c28, c29, rfl⟩ : ∃ c0 c1 c2 c3 c4 c5 c6 c7 c8 c9 c10 c11 c12 c13 c14 c15 c16 c17 c18 c19 c20 c21 c22 c23 c24 c25 c26 c27 c28 c29, cs = [c0, c1, c2, c3, c4, c5, c6, c7, c8, c9, c10, c11, c12, c13, c14, c15, c16, c17, c18, c19, c20, c21, c22, c23, c24, c25, c26, c27, c28, c29] := by
    match cs, hl with
    | [c0, c1, c2, c3, c4, c5, c6, c7, c8, c9, c10, c11, c12, c13, c14, c15, c16, c17, c18, c19, c20, c21, c22, c23, c24, c25, c26, c27, c28, c29], _ => exact ⟨c0, c1, c2, c3, c4, c5, c6, c7, c8, c9, c10, c11, c12, c13, c14, c15, c16, c17, c18, c19, c20, c21, c22, c23, c24, c25, c26, c27, c28, c29, rfl⟩
  obtain ⟨x0, rfl, f0⟩ := leaf_int (k := 8) (i := 0) (u := 2) (by kernel_rfl) undI64 hn rfl
  obtain ⟨x1, rfl, f1⟩ := leaf_int (k := 8) (i := 1) (u := 2) (by kernel_rfl) undI64 hn rfl
  obtain ⟨x2, rfl, f2⟩ := leaf_int (k := 8) (i := 2) (u := 2) (by kernel_rfl) undI64 hn rfl
  obtain ⟨x3, rfl, f3⟩ := leaf_int (k := 8) (i := 3) (u := 2) (by kernel_rfl) undI64 hn rfl
  obtain ⟨x4, rfl, f4⟩ := leaf_int (k := 8) (i := 4) (u := 2) (by kernel_rfl) undI64 hn rfl
  obtain ⟨x5, rfl, f5⟩ := leaf_int (k := 8) (i := 5) (u := 2) (by kernel_rfl) undI64 hn rfl
  obtain ⟨x6, rfl, f6⟩ := leaf_int (k := 8) (i := 6) (u := 2) (by kernel_rfl) undI64 hn rfl
  obtain ⟨x7, rfl, f7⟩ := leaf_int (k := 8) (i := 7) (u := 3) (by kernel_rfl) undInt hn rfl
  obtain ⟨x8, rfl, f8⟩ := leaf_int (k := 8) (i := 8) (u := 3) (by kernel_rfl) undInt hn rfl
  obtain ⟨x9, rfl, f9⟩ := leaf_int (k := 8) (i := 9) (u := 2) (by kernel_rfl) undI64 hn rfl
  obtain ⟨x10, rfl, f10⟩ := leaf_slice (k := 8) (i := 10) (u := 24) (by kernel_rfl) undI64s hn rfl
  obtain ⟨x11, rfl, f11⟩ := leaf_int (k := 8) (i := 11) (u := 2) (by kernel_rfl) undI64 hn rfl
  obtain ⟨x12, rfl, f12⟩ := leaf_int (k := 8) (i := 12) (u := 3) (by kernel_rfl) undInt hn rfl
  obtain ⟨x13, rfl, f13⟩ := leaf_int (k := 8) (i := 13) (u := 2) (by kernel_rfl) undI64 hn rfl
  obtain ⟨x14, rfl, f14⟩ := leaf_int (k := 8) (i := 14) (u := 2) (by kernel_rfl) undI64 hn rfl
  obtain ⟨x15, rfl, f15⟩ := leaf_int (k := 8) (i := 15) (u := 2) (by kernel_rfl) undI64 hn rfl
  obtain ⟨x16, rfl, f16⟩ := leaf_int (k := 8) (i := 16) (u := 2) (by kernel_rfl) undI64 hn rfl
  obtain ⟨x17, rfl, f17⟩ := leaf_int (k := 8) (i := 17) (u := 3) (by kernel_rfl) undInt hn rfl
  obtain ⟨x18, rfl, f18⟩ := leaf_int (k := 8) (i := 18) (u := 2) (by kernel_rfl) undI64 hn rfl
  obtain ⟨x19, rfl, f19⟩ := leaf_int (k := 8) (i := 19) (u := 2) (by kernel_rfl) undI64 hn rfl
  obtain ⟨x20, rfl, f20⟩ := leaf_int (k := 8) (i := 20) (u := 2) (by kernel_rfl) undI64 hn rfl
  obtain ⟨x21, rfl, f21⟩ := leaf_int (k := 8) (i := 21) (u := 2) (by kernel_rfl) undI64 hn rfl
  obtain ⟨x22, rfl, f22⟩ := leaf_int (k := 8) (i := 22) (u := 2) (by kernel_rfl) undI64 hn rfl
  obtain ⟨x23, rfl, f23⟩ := leaf_int (k := 8) (i := 23) (u := 2) (by kernel_rfl) undI64 hn rfl
  obtain ⟨x24, rfl, f24⟩ := leaf_int (k := 8) (i := 24) (u := 2) (by kernel_rfl) undI64 hn rfl
  obtain ⟨x25, rfl, f25⟩ := leaf_int (k := 8) (i := 25) (u := 2) (by kernel_rfl) undI64 hn rfl
  obtain ⟨x26, rfl, f26⟩ := leaf_int (k := 8) (i := 26) (u := 2) (by kernel_rfl) undI64 hn rfl
  obtain ⟨x27, rfl, f27⟩ := leaf_int (k := 8) (i := 27) (u := 2) (by kernel_rfl) undI64 hn rfl
  obtain ⟨x28, rfl, f28⟩ := leaf_string (k := 8) (i := 28) (u := 9) (by kernel_rfl) undStr hn rfl
  obtain ⟨x29, rfl, f29⟩ := leaf_int (k := 8) (i := 29) (u := 3) (by kernel_rfl) undInt hn rfl
  obtain ⟨m, hm⟩ := f10
  have : Inhabited Int := ⟨0⟩
  obtain ⟨s, L, e, l5, m5, g5⟩ := rdC_slS (Q := fun (z : Int) cs => cs = [.int .i64 z]) undI64s (show Tryd.prog.cellsOf 2 = 1 by kernel_rfl) hm fun m cs' hl h => int_rdS hl h
  have e : x10 = s := by
    have : Slc.v x10 = Slc.v s := by simpa using e
    obtain ⟨p1, n1, c1⟩ := x10
    obtain ⟨p2, n2, c2⟩ := s
    unfold Slc.v at this
    simpa using this
  subst e
  refine ⟨(x0, x1, x2, x3, x4, x5, x6, x7, x8, x9, x10, x11, x12, x13, x14, x15, x16, x17, x18, x19, x20, x21, x22, x23, x24, x25, x26, x27, x28, x29), L, rfl, l5, ?_, fun j v hj => ?_⟩
  · rw [ints_len]
    show _ = x10.len * 1
    omega
  · unfold ints at hj
    rw [List.getElem?_map] at hj
    obtain ⟨o, ho, rfl⟩ := Option.map_eq_some_iff.1 hj
    obtain ⟨a, cs', ha, hc, rfl⟩ := g5 j o ho
    refine ⟨a, ha, ?_⟩
    have := hc 0 (by omega)
    rw [Nat.mul_one, Nat.add_zero] at this
    exact this
end Ste
end Go.Proofs.YtjbeembbnkmpeaaDoor
