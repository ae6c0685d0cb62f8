/- Paths: the laid tables. Condition: the rows' own list. -/
import Derived.Test.YtjbeembbnkmpeaaDoorRows
import Derived.Test.YtjbeembbnkmpeaaDoorPaL
import Derived.WalkKit
import Derived.ProofKit
import Derived.OpenShut
import Derived.Deep.DeepHandedRow
import Derived.Lib.LaidTab
import Derived.LaidMore
import Derived.ChangeSame
import Derived.StringKeys
import Derived.WideKeyElems2
import Derived.Laws.IdiomMaps
namespace Go.Proofs.YtjbeembbnkmpeaaDoor
namespace Pat
open Sh Mat Opr
open Go.ChangeShapes Go.WideShapes Go.ChangeAt Go.WideMaps Go.WideElems Go.RowKit
set_option linter.unusedVariables false
set_option linter.unusedSimpArgs false
set_option maxRecDepth 100000
theorem gAS : Tryd.prog.globalNamed "strings.asciiSpace" = some 1 := by kernel_rfl
theorem tAS : (Tryd.prog.globals[1]?).map (·.type) = some 248 := by kernel_rfl
theorem gPM : Tryd.prog.globalNamed "foliant/path.paints" = some 0 := by kernel_rfl
theorem tPM : (Tryd.prog.globals[0]?).map (·.type) = some 158 := by kernel_rfl
theorem undU8 : Tryd.prog.underlying 5 = some (.int .u8) := by kernel_rfl
theorem und256 : Tryd.prog.underlying 248 = some (.array 256 5) := by kernel_rfl
theorem cU8 : Tryd.prog.cellsOf 5 = 1 := by kernel_rfl
theorem c256 : Tryd.prog.cellsOf 248 = 256 := by kernel_rfl
def zsA : List Int := (List.range 256).map fun c => if spB (UInt8.ofNat c) = true then 1 else 0
theorem zsA_laid : (Rows.laid_strings_asciiSpace : DataW Unit) = Lib.tabData .u8 zsA := by kernel_rfl
theorem undPM : Tryd.prog.underlying 158 = some (.map 9 156) := by kernel_rfl
theorem undStr' : Tryd.prog.underlying 9 = some .string := by kernel_rfl
theorem cel156 : Tryd.prog.cellsOf 156 = 2 := by kernel_rfl
/-- What the table says of a name. -/
def pmD : DataW Unit := Rows.laid_foliant_path_paints
theorem pm_at : ∀ l ∈ ten, pmD.atKey (.string l) .nil = .agg [.lit (.int .i64 (howN l).1), .lit (.bool (howN l).2)] := by
  intro l hl
  simp only [ten, List.mem_cons, List.not_mem_nil, or_false] at hl
  rcases hl with rfl | rfl | rfl | rfl | rfl | rfl | rfl | rfl | rfl | rfl <;> rfl
theorem atKey_none {H : Type} {es : List (Lit × DataW H)} {k : Lit} {z : DataW H} (h : ∀ p ∈ es, p.1.sameKey k = false) : (DataW.map es).atKey k z = z := by
  have : es.find? (fun p => p.1.sameKey k) = none := List.find?_eq_none.2 fun p hp => by rw [h p hp]; exact Bool.false_ne_true
  simp only [DataW.atKey, this]
theorem same_no {a l : By} (h : ¬ l = a) : Lit.sameKey (.string a) (.string l) = false := by
  simp only [Lit.sameKey, beq_eq_false_iff_ne, ne_eq]
  exact fun e => h e.symm
theorem pm_no {l : By} (hl : l ∉ ten) (z : DataW Unit) : pmD.atKey (.string l) z = z := by
  simp only [ten, List.mem_cons, List.not_mem_nil, or_false, not_or] at hl
  obtain ⟨h1, h2, h3, h4, h5, h6, h7, h8, h9, h10⟩ := hl
  refine atKey_none fun p hp => ?_
  simp only [List.mem_cons, List.not_mem_nil, or_false] at hp
  rcases hp with rfl | rfl | rfl | rfl | rfl | rfl | rfl | rfl | rfl | rfl <;> exact same_no (by assumption)
theorem und156 : Tryd.prog.underlying 156 = some (.struct #[⟨"how", 3, 0, false, "", "foliant/path", 0⟩, ⟨"closes", 4, 1, false, "", "foliant/path", 8⟩]) := by kernel_rfl
theorem cB : Tryd.prog.cellsOf 4 = 1 := by kernel_rfl
theorem cI : Tryd.prog.cellsOf 3 = 1 := by kernel_rfl
theorem undI : Tryd.prog.underlying 3 = some (.int .i64) := by kernel_rfl
theorem undB : Tryd.prog.underlying 4 = some .bool := by kernel_rfl
section
variable {H : Type} {enc : TypeId × Value → H} {W : World} {base : Nat} {sp : Nat → Bool} {held : Bool}
theorem elem156 {n : Nat} {v : Value} {z : DataW H × List MemPlace} {q : Int} {b : Bool} (h : WideElems.elemAt enc Tryd.prog W base sp held n 156 v = some z) (hz : z.1 = .agg [.lit (.int .i64 q), .lit (.bool b)]) :
    v = .agg #[.int .i64 q, .bool b] := by
  unfold WideElems.elemAt at h
  by_cases hf : v.formed Tryd.prog 156 = true
  · rw [if_pos hf] at h
    obtain ⟨y0, y1, m, rfl, hl, h0, h1⟩ := trod_struct2 und156 h
    rw [cel156] at hl
    simp only [cI, cB] at h0 h1
    simp only [DataW.agg.injEq, List.cons.injEq, and_true] at hz
    cases v with
    | agg cs =>
      obtain ⟨l⟩ := cs
      simp only [Value.cells] at hl h0 h1
      match l, hl with
      | [c0, c1], _ =>
        obtain ⟨k, e1, e2, _⟩ := DataW.trod_int undI h0
        obtain ⟨k', e1', e2'⟩ := DataW.trod_bool undB h1
        simp at e1 e1'
        subst e1 e1'
        rw [e2] at hz
        rw [e2'] at hz
        simp at hz
        rw [hz.1, hz.2]
    | _ => simp [Value.formed, und156] at hf
  · rw [if_neg hf] at h
    cases h
end
theorem of_laidP {W : World} (h : laidMetH Tryd.prog [("unicode.White_Space", Rows.laid_unicode_White_Space), ("strings.asciiSpace", Rows.laid_strings_asciiSpace), ("foliant/path.paints", Rows.laid_foliant_path_paints)] W) : AS W ∧ PM W := by
  rw [MakeChecks.laidMetH_plain _ _ _ (by kernel_rfl)] at h
  obtain ⟨ps, ⟨g0, t0, cs0, f0, p0, q0, hg0, ht0, hv0, hd0, ⟨g1, t1, cs1, f1, p1, q1, hg1, ht1, hv1, hd1, ⟨g2, t2, cs2, f2, p2, q2, hg2, ht2, hv2, hd2, _, _⟩, _⟩, _⟩, _, _⟩ := h
  obtain rfl := Option.some.inj (gAS.symm.trans hg1)
  obtain rfl := Option.some.inj (tAS.symm.trans ht1)
  obtain rfl := Option.some.inj (gPM.symm.trans hg2)
  obtain rfl := Option.some.inj (tPM.symm.trans ht2)
  rw [zsA_laid] at hd1
  have hcs := Lib.cells_of_tab und256 undU8 cU8 c256 hd1
  have hcell : ∀ c : Nat, c < 256 → W.cell? ⟨1, c, none⟩ = some (.int .u8 (if spB (UInt8.ofNat c) = true then 1 else 0)) := fun c hc => by
    have := World.var?_cell hg1 hv1 c
    rw [this, ← Array.getElem?_toList, hcs]
    unfold zsA
    rw [List.getElem?_map, List.getElem?_map, List.getElem?_range hc]
    rfl
  refine ⟨hcell, ?_⟩
  rcases WideElems.open_map undPM hd2 with ⟨_, hx⟩ | ⟨bm, es, clock, m, rfl, hcs, hb, _, F, hx⟩
  · cases hx
  simp only [Prod.mk.injEq] at hx
  have hm : W.cell? ⟨0, 0, none⟩ = some (.map (some bm)) := by
    have := World.var?_cell hg2 hv2 0
    rw [Array.eq_one_of_toList hcs] at this
    simpa using this
  refine ⟨bm, _, hm, hb, fun w' nm hs hw' => ?_⟩
  have zero : (zeroValue 156).run Tryd.prog w' = .ok (.agg #[.int .i64 0, .bool false]) w' := by kernel_rfl
  rcases WideElems.fit_lookup_ok (w := w') (string_law undStr') undPM zero hw' F (keyOf_string_mk undStr' hs) with ⟨hrun, hat⟩ | ⟨v, y, hrun, hRv, hat, _⟩
  · have h1 := hat .nil
    rw [← hx.1] at h1
    by_cases hl : bl nm ∈ ten
    · have := (pm_at _ hl).symm.trans h1
      cases this
    · rw [how_no hl, decide_eq_false hl]
      exact hrun
  · have h1 := hat .nil
    have h2 := hat (.lit (.bool true))
    rw [← hx.1] at h1 h2
    by_cases hl : bl nm ∈ ten
    · rw [decide_eq_true hl]
      rw [elem156 hRv (h1.symm.trans (pm_at _ hl))] at hrun
      exact hrun
    · have hy := (h1.symm.trans (pm_no hl _)).symm.trans (h2.symm.trans (pm_no hl _))
      cases hy
end Pat
end Go.Proofs.YtjbeembbnkmpeaaDoor
