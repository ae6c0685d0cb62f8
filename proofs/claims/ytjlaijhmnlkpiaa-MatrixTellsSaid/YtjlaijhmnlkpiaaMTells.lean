/- MatrixTells: the law returns true for every input, and every argument reads as before. No condition. -/
import Derived.Test.YtjlaijhmnlkpiaaRows
import Derived.Test.YtjlaijhmnlkpiaaTeM
import Derived.Test.YtjlaijhmnlkpiaaRd
import Derived.WalkKit
import Derived.ProofKit
import Derived.OpenShut
import Derived.ShutString
import Derived.ChangeOld
import Derived.Below
import Derived.Carry
namespace Go.Proofs.Ytjlaijhmnlkpiaa.matrixTells
open Go.ChangeShapes Go.WideShapes Go.ChangeAt Go.RowKit
open Go.ChangeMaps (open_string shut_string)
open Sh
set_option linter.unusedVariables false

theorem own : ownKnob Try.prog.godebug = none := by kernel_rfl
theorem laidOut : laidOutB Try.prog = true := by kernel_rfl
set_option maxRecDepth 100000 in
theorem arg0 {H : Type} {enc : TypeId × Value → H} {W : World} {spare : Nat → Bool} {held : Bool} {v : Value} {d : DataW H} {ps : List MemPlace} {rr : Reach} {b0 : Nat}
    (h0 : Value.okWide Try.prog W rr b0 23 v) (h : DataW.Trod enc Try.prog W 0 spare held 23 v d ps) : ∃ a : Int × Int × Int × Int × Int × Int, v = .agg #[.int .i64 (a.1), .int .i64 (a.2.1), .int .i64 (a.2.2.1), .int .i64 (a.2.2.2.1), .int .i64 (a.2.2.2.2.1), .int .i64 (a.2.2.2.2.2)] ∧ (Lit.int .i64 a.1).wf = true ∧ (Lit.int .i64 a.2.1).wf = true ∧ (Lit.int .i64 a.2.2.1).wf = true ∧ (Lit.int .i64 a.2.2.2.1).wf = true ∧ (Lit.int .i64 a.2.2.2.2.1).wf = true ∧ (Lit.int .i64 a.2.2.2.2.2).wf = true := by
  obtain ⟨cs, rfl, hl, n, hn⟩ := rdC_arg_agg (by rw [Try.underlying23]; rfl) h0 h
  rw [show Try.prog.cellsOf 23 = 6 by kernel_rfl] at hl
  obtain ⟨c0, c1, c2, c3, c4, c5, rfl⟩ : ∃ c0 c1 c2 c3 c4 c5, cs = [c0, c1, c2, c3, c4, c5] := by
    match cs, hl with
    | [c0, c1, c2, c3, c4, c5], _ => exact ⟨c0, c1, c2, c3, c4, c5, rfl⟩
  obtain ⟨x0, rfl, f0⟩ := leaf_int (k := 8) (i := 0) (u := 2) (by kernel_rfl) Try.underlying2 hn rfl
  obtain ⟨x1, rfl, f1⟩ := leaf_int (k := 8) (i := 1) (u := 2) (by kernel_rfl) Try.underlying2 hn rfl
  obtain ⟨x2, rfl, f2⟩ := leaf_int (k := 8) (i := 2) (u := 2) (by kernel_rfl) Try.underlying2 hn rfl
  obtain ⟨x3, rfl, f3⟩ := leaf_int (k := 8) (i := 3) (u := 2) (by kernel_rfl) Try.underlying2 hn rfl
  obtain ⟨x4, rfl, f4⟩ := leaf_int (k := 8) (i := 4) (u := 2) (by kernel_rfl) Try.underlying2 hn rfl
  obtain ⟨x5, rfl, f5⟩ := leaf_int (k := 8) (i := 5) (u := 2) (by kernel_rfl) Try.underlying2 hn rfl
  exact ⟨(x0, x1, x2, x3, x4, x5), rfl, f0, f1, f2, f3, f4, f5⟩
set_option maxRecDepth 100000 in
theorem arg1 {H : Type} {enc : TypeId × Value → H} {W : World} {spare : Nat → Bool} {held : Bool} {v : Value} {d : DataW H} {ps : List MemPlace} {rr : Reach} {b0 : Nat}
    (h0 : Value.okWide Try.prog W rr b0 23 v) (h : DataW.Trod enc Try.prog W 0 spare held 23 v d ps) : ∃ a : Int × Int × Int × Int × Int × Int, v = .agg #[.int .i64 (a.1), .int .i64 (a.2.1), .int .i64 (a.2.2.1), .int .i64 (a.2.2.2.1), .int .i64 (a.2.2.2.2.1), .int .i64 (a.2.2.2.2.2)] ∧ (Lit.int .i64 a.1).wf = true ∧ (Lit.int .i64 a.2.1).wf = true ∧ (Lit.int .i64 a.2.2.1).wf = true ∧ (Lit.int .i64 a.2.2.2.1).wf = true ∧ (Lit.int .i64 a.2.2.2.2.1).wf = true ∧ (Lit.int .i64 a.2.2.2.2.2).wf = true := by
  obtain ⟨cs, rfl, hl, n, hn⟩ := rdC_arg_agg (by rw [Try.underlying23]; rfl) h0 h
  rw [show Try.prog.cellsOf 23 = 6 by kernel_rfl] at hl
  obtain ⟨c0, c1, c2, c3, c4, c5, rfl⟩ : ∃ c0 c1 c2 c3 c4 c5, cs = [c0, c1, c2, c3, c4, c5] := by
    match cs, hl with
    | [c0, c1, c2, c3, c4, c5], _ => exact ⟨c0, c1, c2, c3, c4, c5, rfl⟩
  obtain ⟨x0, rfl, f0⟩ := leaf_int (k := 8) (i := 0) (u := 2) (by kernel_rfl) Try.underlying2 hn rfl
  obtain ⟨x1, rfl, f1⟩ := leaf_int (k := 8) (i := 1) (u := 2) (by kernel_rfl) Try.underlying2 hn rfl
  obtain ⟨x2, rfl, f2⟩ := leaf_int (k := 8) (i := 2) (u := 2) (by kernel_rfl) Try.underlying2 hn rfl
  obtain ⟨x3, rfl, f3⟩ := leaf_int (k := 8) (i := 3) (u := 2) (by kernel_rfl) Try.underlying2 hn rfl
  obtain ⟨x4, rfl, f4⟩ := leaf_int (k := 8) (i := 4) (u := 2) (by kernel_rfl) Try.underlying2 hn rfl
  obtain ⟨x5, rfl, f5⟩ := leaf_int (k := 8) (i := 5) (u := 2) (by kernel_rfl) Try.underlying2 hn rfl
  exact ⟨(x0, x1, x2, x3, x4, x5), rfl, f0, f1, f2, f3, f4, f5⟩
set_option maxRecDepth 100000 in
theorem arg2 {H : Type} {enc : TypeId × Value → H} {W : World} {spare : Nat → Bool} {held : Bool} {v : Value} {d : DataW H} {ps : List MemPlace} {rr : Reach} {b0 : Nat}
    (h0 : Value.okWide Try.prog W rr b0 25 v) (h : DataW.Trod enc Try.prog W 0 spare held 25 v d ps) : ∃ a : Int × Int, v = .agg #[.int .i64 (a.1), .int .i64 (a.2)] ∧ (Lit.int .i64 a.1).wf = true ∧ (Lit.int .i64 a.2).wf = true := by
  obtain ⟨cs, rfl, hl, n, hn⟩ := rdC_arg_agg (by rw [Try.underlying25]; rfl) h0 h
  rw [show Try.prog.cellsOf 25 = 2 by kernel_rfl] at hl
  obtain ⟨c0, c1, rfl⟩ : ∃ c0 c1, cs = [c0, c1] := by
    match cs, hl with
    | [c0, c1], _ => exact ⟨c0, c1, rfl⟩
  obtain ⟨x0, rfl, f0⟩ := leaf_int (k := 8) (i := 0) (u := 2) (by kernel_rfl) Try.underlying2 hn rfl
  obtain ⟨x1, rfl, f1⟩ := leaf_int (k := 8) (i := 1) (u := 2) (by kernel_rfl) Try.underlying2 hn rfl
  exact ⟨(x0, x1), rfl, f0, f1⟩
set_option maxRecDepth 100000 in
theorem arg3 {H : Type} {enc : TypeId × Value → H} {W : World} {spare : Nat → Bool} {held : Bool} {v : Value} {d : DataW H} {ps : List MemPlace} {rr : Reach} {b0 : Nat}
    (h0 : Value.okWide Try.prog W rr b0 27 v) (h : DataW.Trod enc Try.prog W 0 spare held 27 v d ps) : ∃ a : Int × Int × Int × Int, v = .agg #[.int .i64 (a.1), .int .i64 (a.2.1), .int .i64 (a.2.2.1), .int .i64 (a.2.2.2)] ∧ (Lit.int .i64 a.1).wf = true ∧ (Lit.int .i64 a.2.1).wf = true ∧ (Lit.int .i64 a.2.2.1).wf = true ∧ (Lit.int .i64 a.2.2.2).wf = true := by
  obtain ⟨cs, rfl, hl, n, hn⟩ := rdC_arg_agg (by rw [Try.underlying27]; rfl) h0 h
  rw [show Try.prog.cellsOf 27 = 4 by kernel_rfl] at hl
  obtain ⟨c0, c1, c2, c3, rfl⟩ : ∃ c0 c1 c2 c3, cs = [c0, c1, c2, c3] := by
    match cs, hl with
    | [c0, c1, c2, c3], _ => exact ⟨c0, c1, c2, c3, rfl⟩
  obtain ⟨x0, rfl, f0⟩ := leaf_int (k := 8) (i := 0) (u := 2) (by kernel_rfl) Try.underlying2 hn rfl
  obtain ⟨x1, rfl, f1⟩ := leaf_int (k := 8) (i := 1) (u := 2) (by kernel_rfl) Try.underlying2 hn rfl
  obtain ⟨x2, rfl, f2⟩ := leaf_int (k := 8) (i := 2) (u := 2) (by kernel_rfl) Try.underlying2 hn rfl
  obtain ⟨x3, rfl, f3⟩ := leaf_int (k := 8) (i := 3) (u := 2) (by kernel_rfl) Try.underlying2 hn rfl
  exact ⟨(x0, x1, x2, x3), rfl, f0, f1, f2, f3⟩
set_option maxRecDepth 100000 in
theorem lifted (os : Os) (started : os.Started) (H : Type) (enc : TypeId × Value → H) :
    ReturnsInHanded {} Try.checked os 3 .any (Rows.matrixTellsSpec.pre6 enc Try.prog Try.f3 Rows.matrixTellsRow.domain false) (Rows.matrixTellsSpec.post enc Try.prog Try.f3 false true false false) := by
  refine returnsInHanded_of_change (C := Try.checked) own started (by kernel_rfl) Try.func3
    (ChangeSpec.witness6 (enc := enc) (C := Try.checked) false ⟨#[], #[.agg #[.int .i64 0, .int .i64 0, .int .i64 0, .int .i64 0, .int .i64 0, .int .i64 0], .agg #[.int .i64 0, .int .i64 0, .int .i64 0, .int .i64 0, .int .i64 0, .int .i64 0], .agg #[.int .i64 0, .int .i64 0], .agg #[.int .i64 0, .int .i64 0, .int .i64 0, .int .i64 0], .agg #[.int .i64 0, .int .i64 0, .int .i64 0, .string ByteArray.empty, .slice none 0 0, .slice none 0 0]], []⟩ 8 (by kernel_rfl) (by kernel_rfl) (by kernel_rfl) (by kernel_rfl)) ?_
  intro W base args ds gs before hval0 hW hcnd _
  have hval : ∀ (j : Nat) t v, Try.f3.params[j]? = some t → args[j]? = some v → Value.okWide Try.prog W .any base t v := hval0
  have hW' := hW
  obtain ⟨p, q, hA0, hV, rfl, hfz, hnd⟩ := hW
  have hA : DataW.TrodAll enc Try.prog W 0 (fun _ => true) true Try.f3.params.toList args.toList ds p := hA0
  rw [Try.params3] at hA hval
  obtain ⟨v0, vs0, d0, ds0, p0, q0, hargs, rfl, rfl, h0, r0⟩ := trodAll_cons hA
  obtain ⟨v1, vs1, d1, ds1, p1, q1, rfl, rfl, rfl, h1, r1⟩ := trodAll_cons r0
  obtain ⟨v2, vs2, d2, ds2, p2, q2, rfl, rfl, rfl, h2, r2⟩ := trodAll_cons r1
  obtain ⟨v3, vs3, d3, ds3, p3, q3, rfl, rfl, rfl, h3, r3⟩ := trodAll_cons r2
  obtain ⟨v4, vs4, d4, ds4, p4, q4, rfl, rfl, rfl, h4, r4⟩ := trodAll_cons r3
  obtain ⟨rfl, rfl, rfl⟩ := trodAll_nil r4
  obtain rfl : args = #[v0, v1, v2, v3, v4] := by cases args; simp_all
  obtain ⟨rfl, rfl⟩ := trodVars_none hV
  have k0 := h0
  have lt0 : ∀ x ∈ p0, x.block < W.heap.size := by obtain ⟨m, hm⟩ := k0; exact DataW.trod_lt m _ _ _ hm
  obtain ⟨a0, rfl, w0⟩ := arg0 (hval 0 23 v0 rfl rfl) h0
  have k1 := h1
  have lt1 : ∀ x ∈ p1, x.block < W.heap.size := by obtain ⟨m, hm⟩ := k1; exact DataW.trod_lt m _ _ _ hm
  obtain ⟨a1, rfl, w1⟩ := arg1 (hval 1 23 v1 rfl rfl) h1
  have k2 := h2
  have lt2 : ∀ x ∈ p2, x.block < W.heap.size := by obtain ⟨m, hm⟩ := k2; exact DataW.trod_lt m _ _ _ hm
  obtain ⟨a2, rfl, w2⟩ := arg2 (hval 2 25 v2 rfl rfl) h2
  have k3 := h3
  have lt3 : ∀ x ∈ p3, x.block < W.heap.size := by obtain ⟨m, hm⟩ := k3; exact DataW.trod_lt m _ _ _ hm
  obtain ⟨a3, rfl, w3⟩ := arg3 (hval 3 27 v3 rfl rfl) h3
  have k4 := h4
  have lt4 : ∀ x ∈ p4, x.block < W.heap.size := by obtain ⟨m, hm⟩ := k4; exact DataW.trod_lt m _ _ _ hm
  obtain ⟨a4, rfl, n4, o4⟩ := Mat.ob_arg (hval 4 31 v4 rfl rfl) h4
  clear hA0 hval0
  refine Calls.mono (Mat.tells_law a0 a1 a2 a3 a4 W o4 (Mat.i64M_of w0)) fun e W' ⟨r, he, hr, hx⟩ => ?_
  subst hr
  subst he
  have bel := hx.below
  exact ⟨_, rfl, _, _, _, [], _, [], hW', trodAll_mk1 (shut_bool Try.underlying4 _), (trodAll_cons_mk (Below.trod laidOut (by kernel_rfl) (of_decide_eq_true (by kernel_rfl)) k0 bel lt0) (trodAll_cons_mk (Below.trod laidOut (by kernel_rfl) (of_decide_eq_true (by kernel_rfl)) k1 bel lt1) (trodAll_cons_mk (Below.trod laidOut (by kernel_rfl) (of_decide_eq_true (by kernel_rfl)) k2 bel lt2) (trodAll_cons_mk (Below.trod laidOut (by kernel_rfl) (of_decide_eq_true (by kernel_rfl)) k3 bel lt3) (trodAll_cons_mk (Below.trod laidOut (by kernel_rfl) (of_decide_eq_true (by kernel_rfl)) k4 bel lt4) trodAll_mk0))))), rfl, bel.frame _, fun h => by cases h⟩

theorem over : Rows.matrixTellsRow.holds Try.pinned (OpenSpec.ofChange Rows.matrixTellsSpec) :=
  OpenClaim.holds_of_wide 3 Try.f3 rfl rfl rfl rfl rfl rfl rfl ⟨rfl, rfl, rfl, rfl, rfl⟩ rfl rfl rfl rfl rfl (by kernel_rfl) Try.func3 (by kernel_rfl)
    (of_decide_eq_true (by kernel_rfl)) (by unfold Func.isWrapper; first | (rw [if_pos (by decide +kernel)]; kernel_rfl) | (rw [if_neg (by decide +kernel)]; exact ⟨rfl, rfl⟩))
    (fun os started H enc _ => lifted os started H enc)

/-- The statement. -/
theorem proved : Rows.MatrixTellsSaid := over
#print axioms proved
end Go.Proofs.Ytjlaijhmnlkpiaa.matrixTells
