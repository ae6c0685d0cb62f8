/- Inflate: what the laid variables give the walks. Condition: the rows' own list. -/
import Derived.Test.YtjkoafjnmkchdaaDoorRows
import Derived.Test.YtjkoafjnmkchdaaDoorQIZs4
import Derived.WalkKit
import Derived.ProofKit
import Derived.OpenShut
import Derived.Deep.DeepHandedRow
import Derived.Lib.LaidTab
import Derived.LaidMore
import Derived.Maps.OwnSet
import Derived.ChangeSame
import Derived.Test.YtjkoafjnmkchdaaDoorQIZs9
namespace Go.Proofs.YtjkoafjnmkchdaaDoor
namespace InfZ
open Inf
open Sh Bit
open Go.ChangeShapes Go.WideShapes Go.ChangeAt Go.RowKit Go.WideElems Go.Maps
set_option linter.unusedVariables false
set_option linter.unusedSimpArgs false
set_option maxRecDepth 100000
theorem gOrd : Tryd.prog.globalNamed "foliant/inflate.order" = some 0 := by kernel_rfl
theorem gRep : Tryd.prog.globalNamed "foliant/inflate.repeats" = some 1 := by kernel_rfl
theorem tOrd : (Tryd.prog.globals[0]?).map (·.type) = some 86 := by kernel_rfl
theorem tRep : (Tryd.prog.globals[1]?).map (·.type) = some 143 := by kernel_rfl
theorem undInt : Tryd.prog.underlying 3 = some (.int .i64) := by kernel_rfl
theorem und19 : Tryd.prog.underlying 86 = some (.array 19 3) := by kernel_rfl
theorem undRep : Tryd.prog.underlying 143 = some (.map 3 141) := by kernel_rfl
theorem cInt : Tryd.prog.cellsOf 3 = 1 := by kernel_rfl
theorem c19 : Tryd.prog.cellsOf 86 = 19 := by kernel_rfl
theorem c2 : Tryd.prog.cellsOf 141 = 2 := by kernel_rfl
theorem undR : ∃ f0 f1 : Field, Tryd.prog.underlying 141 = some (.struct #[f0, f1]) ∧ f0.type = 3 ∧ f1.type = 3 ∧ f0.offset = 0 ∧ f1.offset = 1 := by
  refine ⟨⟨"least", 3, 0, false, "", "foliant/inflate", 0⟩, ⟨"more", 3, 1, false, "", "foliant/inflate", 8⟩, by kernel_rfl, rfl, rfl, rfl, rfl⟩
theorem zeroR (w : World) : (zeroValue 141).run Tryd.prog w = .ok (.agg #[.int .i64 0, .int .i64 0]) w := by kernel_rfl
theorem val2 {H : Type} {enc : TypeId × Value → H} {W : World} {base m : Nat} {sp : Nat → Bool} {held : Bool} {v : Value} {y : DataW H × List MemPlace} (h : elemAt enc Tryd.prog W base sp held m 141 v = some y) :
    ∃ a b : Int, v = .agg #[.int .i64 a, .int .i64 b] ∧ y.1 = .agg [.lit (.int .i64 a), .lit (.int .i64 b)] := by
  obtain ⟨f0, f1, hu, t0, t1, o0, o1⟩ := undR
  unfold elemAt at h
  split at h
  · rename_i hf
    obtain ⟨y0, y1, n, rfl, hl, h0, h1⟩ := trod_struct2 hu h
    rw [t0, o0, cInt] at h0
    rw [t1, o1, cInt] at h1
    obtain ⟨a, e0, rfl, _⟩ := DataW.trod_int undInt h0
    obtain ⟨b, e1, rfl, _⟩ := DataW.trod_int undInt h1
    refine ⟨a, b, ?_, rfl⟩
    rw [c2] at hl
    have hcs : v.cells.toList = [.int .i64 a, .int .i64 b] := by
      match hv : v.cells.toList, hl with
      | [c0, c1], _ =>
        rw [hv] at e0 e1
        simp at e0 e1
        rw [e0, e1]
    cases v with
    | agg cs =>
      have : cs.toList = [.int .i64 a, .int .i64 b] := hcs
      congr 1
      exact Array.ext' this
    | _ => simp [Value.formed, hu] at hf
  · cases h
theorem of_laid {W : World} (h : laidMetH Tryd.prog Rows.zlibSpoiltRow.laid W) : Laid W.heap.size W := by
  have h : laidMetH Tryd.prog [("foliant/inflate.order", Rows.laid_foliant_inflate_order), ("foliant/inflate.repeats", Rows.laid_foliant_inflate_repeats)] W := h
  rw [MakeChecks.laidMetH_plain _ _ _ (by kernel_rfl)] at h
  have ht := Lib.tabIs_of_head (k := .i64) (zs := [16, 17, 18, 0, 8, 7, 9, 6, 10, 5, 11, 4, 12, 3, 13, 2, 14, 1, 15]) (rest := [("foliant/inflate.repeats", Rows.laid_foliant_inflate_repeats)]) gOrd tOrd und19 undInt cInt c19 h
  obtain ⟨ps, ⟨g0, t0, cs0, f0, p0, q0, hg0, ht0, hv0, hd0, ⟨g1, t1, cs1, f1, p1, q1, hg1, ht1, hv1, hd1, _, _⟩, _⟩, _, _⟩ := h
  obtain rfl := Option.some.inj (gRep.symm.trans hg1)
  obtain rfl := Option.some.inj (tRep.symm.trans ht1)
  rcases Go.WideElems.open_map undRep hd1 with ⟨_, hx⟩ | ⟨bm, es, clock, m, rfl, hcs, hb, _, F, hx⟩
  · simp [Rows.laid_foliant_inflate_repeats] at hx
  simp only [Prod.mk.injEq] at hx
  have hcell : W.cell? ⟨1, 0, none⟩ = some (.map (some bm)) := by
    have := World.var?_cell hg1 hv1 0
    rw [Array.eq_one_of_toList hcs] at this
    simpa using this
  have hz := cell_lt' hcell
  have hz : 1 < W.heap.size := hz
  have hbm := lt_of_block hb
  refine ⟨by omega, Nat.le_refl _, fun i hi => ?_, bm, _, hbm, hb, hcell, fun w' hw' n hn0 hn19 => ?_⟩
  · have hc := ht.cell gOrd i hi
    rw [hc]
    congr 2
    have : ∀ i : Nat, i < 19 → ([16, 17, 18, 0, 8, 7, 9, 6, 10, 5, 11, 4, 12, 3, 13, 2, 14, 1, 15] : List Int).getD i 0 = ((order.getD i 0 : Nat) : Int) := by decide
    first | exact this i hi | (rw [← this i hi]; simp)
  · have key : ∀ d : DataW Unit, (Rows.laid_foliant_inflate_repeats : DataW Unit).atKey (.int .i64 n) .nil = d → (d = .nil → repV n = ((0, 0), false)) → (∀ a b : Int, d = .agg [.lit (.int .i64 a), .lit (.int .i64 b)] → repV n = ((a, b), true)) → RunV Tryd.prog (Instr.lookup 143 (.map (some bm)) (.int .i64 n) true) w' (.tuple #[.agg #[.int .i64 (repV n).1.1, .int .i64 (repV n).1.2], .bool (repV n).2]) w' := fun d hd hA hB => by
      rcases fit_look (w := w') true (int_keyed undInt) undRep (zeroR w') hw' F (keyOf_int_mk undInt (WalkArith.wf_i64 (n := n) ⟨by omega, by omega⟩)) with ⟨hrun, _, hat⟩ | ⟨e0, y, _, _, hrun, hR, hat, _⟩
      · have := hat .nil
        rw [← hx.1, hd] at this
        rw [hA this]
        exact hrun
      · have := hat .nil
        rw [← hx.1, hd] at this
        obtain ⟨a, b, hv, hy⟩ := val2 hR
        rw [hB a b (this.trans hy)]
        rw [hv] at hrun
        exact hrun
    obtain ⟨k, rfl⟩ := Int.eq_ofNat_of_zero_le hn0
    have hk : k < 19 := by omega
    have hc : k = 0 ∨ k = 1 ∨ k = 2 ∨ k = 3 ∨ k = 4 ∨ k = 5 ∨ k = 6 ∨ k = 7 ∨ k = 8 ∨ k = 9 ∨ k = 10 ∨ k = 11 ∨ k = 12 ∨ k = 13 ∨ k = 14 ∨ k = 15 ∨ k = 16 ∨ k = 17 ∨ k = 18 := by omega
    rcases hc with rfl | rfl | rfl | rfl | rfl | rfl | rfl | rfl | rfl | rfl | rfl | rfl | rfl | rfl | rfl | rfl | rfl | rfl | rfl
    all_goals
      first
      | exact key .nil (by kernel_rfl) (fun _ => rfl) fun a b h => by cases h
      | exact key (.agg [.lit (.int .i64 3), .lit (.int .i64 2)]) (by kernel_rfl) (fun h => by cases h) fun a b h => by cases h; rfl
      | exact key (.agg [.lit (.int .i64 3), .lit (.int .i64 3)]) (by kernel_rfl) (fun h => by cases h) fun a b h => by cases h; rfl
      | exact key (.agg [.lit (.int .i64 11), .lit (.int .i64 7)]) (by kernel_rfl) (fun h => by cases h) fun a b h => by cases h; rfl
end InfZ
end Go.Proofs.YtjkoafjnmkchdaaDoor

/- Joined. -/
