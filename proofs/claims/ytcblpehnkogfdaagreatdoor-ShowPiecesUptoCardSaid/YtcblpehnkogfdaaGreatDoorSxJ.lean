/- Shown strings: a state and a font as arguments; the laid tables. Conditions: none. -/
import Derived.Test.YtcblpehnkogfdaaGreatDoorSwD
import Derived.Test.YtcblpehnkogfdaaGreatDoorRows
import Derived.WalkKit
import Derived.ProofKit
import Derived.OpenShut
import Derived.Deep.DeepHandedRow
import Derived.Lib.LaidTab
import Derived.Lib.LaidU8T
import Derived.LaidMore
import Derived.ChangeSame
namespace Go.Proofs.YtcblpehnkogfdaaGreatDoor
namespace Sw
open Sh Mat Fix Fo
open Go.ChangeShapes Go.WideShapes Go.ChangeAt Go.RowKit
set_option linter.unusedVariables false
set_option linter.unusedSimpArgs false
set_option maxRecDepth 100000
set_option maxHeartbeats 2000000
theorem u8x : U8Extra Tryz.prog Tryz.lays196_ren := { n3 := by kernel_rfl, n4 := by kernel_rfl, y3 := by kernel_rfl, y4 := by kernel_rfl, c5 := by kernel_rfl, c119 := by kernel_rfl, c138 := by kernel_rfl }
theorem d_first : (Rows.laid_unicode_utf8_first : DataW Unit) = Lib.firstData := by kernel_rfl
theorem d_acc : (Rows.laid_unicode_utf8_acceptRanges : DataW Unit) = Lib.acceptData := by kernel_rfl
theorem d_as : (Rows.laid_strings_asciiSpace : DataW Unit) = Lib.tabData .u8 Lib.asciiSpaceTab := by kernel_rfl
theorem of_reads {W : World} {l : List (String × DataW Unit)} (h : laidMet Tryz.prog l W) (h1 : ("unicode/utf8.first", (Rows.laid_unicode_utf8_first : DataW Unit)) ∈ l) (h2 : ("unicode/utf8.acceptRanges", (Rows.laid_unicode_utf8_acceptRanges : DataW Unit)) ∈ l) (h3 : ("strings.asciiSpace", (Rows.laid_strings_asciiSpace : DataW Unit)) ∈ l) : TB W := by
  refine ⟨?_, utf8Tabs_of_readsT (.of196 Tryz.lays196) u8x (by rw [← d_first]; exact Lib.laidMet.reads h h1) (by rw [← d_acc]; exact Lib.laidMet.reads h h2)⟩
  obtain ⟨g, t, cs, fuel, p, hg, hty, hvar, hd⟩ := Lib.laidMet.reads h h3
  rw [d_as] at hd
  obtain rfl := Option.some.inj ((show Tryz.prog.globalNamed "strings.asciiSpace" = some 2 by kernel_rfl).symm.trans hg)
  obtain rfl := Option.some.inj ((show (Tryz.prog.globals[2]?).map (·.type) = some 165 by kernel_rfl).symm.trans hty)
  unfold Lib.TabIs
  rw [hvar, ← Lib.cells_of_tab (show Tryz.prog.underlying 165 = some (.array 256 5) by kernel_rfl) (show Tryz.prog.underlying 5 = some (.int .u8) by kernel_rfl) (by kernel_rfl) (by kernel_rfl) hd]
theorem undI64 : Tryz.prog.underlying 2 = some (.int .i64) := by kernel_rfl
theorem undInt : Tryz.prog.underlying 3 = some (.int .i64) := by kernel_rfl
theorem undStr : Tryz.prog.underlying 9 = some .string := by kernel_rfl
theorem undI64s : Tryz.prog.underlying 25 = some (.slice 2) := by kernel_rfl
/-- A state as an argument. -/
theorem gr_arg {H : Type} {enc : TypeId × Value → H} {W : World} {spare : Nat → Bool} {held : Bool} {v : Value} {d : DataW H} {ps : List MemPlace} {rr : Reach} {b0 : Nat}
    (h0 : Value.okWide Tryz.prog W rr b0 31 v) (h : DataW.Trod enc Tryz.prog W 0 spare held 31 v d ps) : ∃ g : GT, v = .agg (Sig.cells LiA30 g).toArray := by
  obtain ⟨cs, rfl, hl, n, hn⟩ := rdC_arg_agg (by kernel_rfl) h0 h
  rw [show Tryz.prog.cellsOf 31 = 30 by kernel_rfl] at hl
  obtain ⟨c0, c1, c2, c3, c4, c5, c6, c7, c8, c9, c10, c11, c12, c13, c14, c15, c16, c17, c18, c19, c20, c21, c22, c23, c24, c25, c26, c27, c28, c29, rfl⟩ : ∃ c0 c1 c2 c3 c4 c5 c6 c7 c8 c9 c10 c11 c12 c13 c14 c15 c16 c17 c18 c19 c20 c21 c22 c23 c24 c25 c26 c27 c28 c29, cs = [c0, c1, c2, c3, c4, c5, c6, c7, c8, c9, c10, c11, c12, c13, c14, c15, c16, c17, c18, c19, c20, c21, c22, c23, c24, c25, c26, c27, c28, c29] := by
    match cs, hl with
    | [c0, c1, c2, c3, c4, c5, c6, c7, c8, c9, c10, c11, c12, c13, c14, c15, c16, c17, c18, c19, c20, c21, c22, c23, c24, c25, c26, c27, c28, c29], _ => exact ⟨c0, c1, c2, c3, c4, c5, c6, c7, c8, c9, c10, c11, c12, c13, c14, c15, c16, c17, c18, c19, c20, c21, c22, c23, c24, c25, c26, c27, c28, c29, rfl⟩
  obtain ⟨x0, rfl, _⟩ := leaf_int (k := 8) (i := 0) (u := 2) (by kernel_rfl) undI64 hn rfl
  obtain ⟨x1, rfl, _⟩ := leaf_int (k := 8) (i := 1) (u := 2) (by kernel_rfl) undI64 hn rfl
  obtain ⟨x2, rfl, _⟩ := leaf_int (k := 8) (i := 2) (u := 2) (by kernel_rfl) undI64 hn rfl
  obtain ⟨x3, rfl, _⟩ := leaf_int (k := 8) (i := 3) (u := 2) (by kernel_rfl) undI64 hn rfl
  obtain ⟨x4, rfl, _⟩ := leaf_int (k := 8) (i := 4) (u := 2) (by kernel_rfl) undI64 hn rfl
  obtain ⟨x5, rfl, _⟩ := leaf_int (k := 8) (i := 5) (u := 2) (by kernel_rfl) undI64 hn rfl
  obtain ⟨x6, rfl, _⟩ := leaf_int (k := 8) (i := 6) (u := 2) (by kernel_rfl) undI64 hn rfl
  obtain ⟨x7, rfl, _⟩ := leaf_int (k := 8) (i := 7) (u := 3) (by kernel_rfl) undInt hn rfl
  obtain ⟨x8, rfl, _⟩ := leaf_int (k := 8) (i := 8) (u := 3) (by kernel_rfl) undInt hn rfl
  obtain ⟨x9, rfl, _⟩ := leaf_int (k := 8) (i := 9) (u := 2) (by kernel_rfl) undI64 hn rfl
  obtain ⟨x10, rfl, _⟩ := leaf_slice (k := 8) (i := 10) (u := 25) (by kernel_rfl) undI64s hn rfl
  obtain ⟨x11, rfl, _⟩ := leaf_int (k := 8) (i := 11) (u := 2) (by kernel_rfl) undI64 hn rfl
  obtain ⟨x12, rfl, _⟩ := leaf_int (k := 8) (i := 12) (u := 3) (by kernel_rfl) undInt hn rfl
  obtain ⟨x13, rfl, _⟩ := leaf_int (k := 8) (i := 13) (u := 2) (by kernel_rfl) undI64 hn rfl
  obtain ⟨x14, rfl, _⟩ := leaf_int (k := 8) (i := 14) (u := 2) (by kernel_rfl) undI64 hn rfl
  obtain ⟨x15, rfl, _⟩ := leaf_int (k := 8) (i := 15) (u := 2) (by kernel_rfl) undI64 hn rfl
  obtain ⟨x16, rfl, _⟩ := leaf_int (k := 8) (i := 16) (u := 2) (by kernel_rfl) undI64 hn rfl
  obtain ⟨x17, rfl, _⟩ := leaf_int (k := 8) (i := 17) (u := 3) (by kernel_rfl) undInt hn rfl
  obtain ⟨x18, rfl, _⟩ := leaf_int (k := 8) (i := 18) (u := 2) (by kernel_rfl) undI64 hn rfl
  obtain ⟨x19, rfl, _⟩ := leaf_int (k := 8) (i := 19) (u := 2) (by kernel_rfl) undI64 hn rfl
  obtain ⟨x20, rfl, _⟩ := leaf_int (k := 8) (i := 20) (u := 2) (by kernel_rfl) undI64 hn rfl
  obtain ⟨x21, rfl, _⟩ := leaf_int (k := 8) (i := 21) (u := 2) (by kernel_rfl) undI64 hn rfl
  obtain ⟨x22, rfl, _⟩ := leaf_int (k := 8) (i := 22) (u := 2) (by kernel_rfl) undI64 hn rfl
  obtain ⟨x23, rfl, _⟩ := leaf_int (k := 8) (i := 23) (u := 2) (by kernel_rfl) undI64 hn rfl
  obtain ⟨x24, rfl, _⟩ := leaf_int (k := 8) (i := 24) (u := 2) (by kernel_rfl) undI64 hn rfl
  obtain ⟨x25, rfl, _⟩ := leaf_int (k := 8) (i := 25) (u := 2) (by kernel_rfl) undI64 hn rfl
  obtain ⟨x26, rfl, _⟩ := leaf_int (k := 8) (i := 26) (u := 2) (by kernel_rfl) undI64 hn rfl
  obtain ⟨x27, rfl, _⟩ := leaf_int (k := 8) (i := 27) (u := 2) (by kernel_rfl) undI64 hn rfl
  obtain ⟨x28, rfl, _⟩ := leaf_string (k := 8) (i := 28) (u := 9) (by kernel_rfl) undStr hn rfl
  obtain ⟨x29, rfl, _⟩ := leaf_int (k := 8) (i := 29) (u := 3) (by kernel_rfl) undInt hn rfl
  exact ⟨(x0, x1, x2, x3, x4, x5, x6, x7, x8, x9, x10, x11, x12, x13, x14, x15, x16, x17, x18, x19, x20, x21, x22, x23, x24, x25, x26, x27, x28, x29), rfl⟩
/-- A font as an argument. -/
theorem fo_arg {H : Type} {enc : TypeId × Value → H} {W : World} {spare : Nat → Bool} {held : Bool} {v : Value} {d : DataW H} {ps : List MemPlace} {rr : Reach} {b0 : Nat}
    (h0 : Value.okWide Tryz.prog W rr b0 35 v) (h : DataW.Trod enc Tryz.prog W 0 spare held 35 v d ps) (hb : Rows.uptoBulk d ≤ 1048576) : ∃ (x : FT) (f : Font), v = .agg (Sig.cells LiA34 x).toArray ∧ FoV W x f := by
  obtain ⟨cs, rfl, hl, _⟩ := rdC_arg_agg (by kernel_rfl) h0 h
  obtain ⟨n, hn⟩ := rdB_Trod (m := 8) (by kernel_rfl) h
  have hn : RdB Tryz.prog W n 35 cs (Rows.uptoBulk d) := hn
  rw [show Tryz.prog.cellsOf 35 = 7 by kernel_rfl] at hl
  obtain ⟨c0, c1, c2, c3, c4, c5, c6, rfl⟩ : ∃ c0 c1 c2 c3 c4 c5 c6, cs = [c0, c1, c2, c3, c4, c5, c6] := by
    match cs, hl with
    | [c0, c1, c2, c3, c4, c5, c6], _ => exact ⟨c0, c1, c2, c3, c4, c5, c6, rfl⟩
  obtain ⟨_, m, bs, hbs, hf⟩ := rdB_struct (L := [(0, 9), (1, 4), (2, 3), (3, 25), (4, 2), (5, 32), (6, 33)]) (by kernel_rfl) hn
  have one : ∀ t : TypeId, Tryz.prog.cellsOf t = 1 → ∀ (i o : Nat) (c : Value), [(0, 9), (1, 4), (2, 3), (3, 25), (4, 2), (5, 32), (6, 33)][i]? = some (o, t) → [c0, c1, c2, c3, c4, c5, c6][o]? = some c → ∃ y, y ≤ bs.sum ∧ RdB Tryz.prog W m t [c] y := fun t ht i o c hi ho => by
    obtain ⟨y, hy, hr⟩ := hf i o t hi
    rw [ht, take_one ho] at hr
    exact ⟨y, sum_get_le hy, hr⟩
  obtain ⟨y0, z0, r0⟩ := one 9 (by kernel_rfl) 0 0 c0 rfl rfl
  obtain ⟨y1, z1, r1⟩ := one 4 (by kernel_rfl) 1 1 c1 rfl rfl
  obtain ⟨y2, z2, r2⟩ := one 3 (by kernel_rfl) 2 2 c2 rfl rfl
  obtain ⟨y3, z3, r3⟩ := one 25 (by kernel_rfl) 3 3 c3 rfl rfl
  obtain ⟨y4, z4, r4⟩ := one 2 (by kernel_rfl) 4 4 c4 rfl rfl
  obtain ⟨y5, z5, r5⟩ := one 32 (by kernel_rfl) 5 5 c5 rfl rfl
  obtain ⟨y6, z6, r6⟩ := one 33 (by kernel_rfl) 6 6 c6 rfl rfl
  obtain ⟨x0, e0, _, l0⟩ := rdB_string undStr r0
  obtain ⟨x1, e1⟩ := rdC_bool (by kernel_rfl) r1.up
  obtain ⟨x2, e2, f2⟩ := rdC_int undInt r2.up
  obtain ⟨x4, e4, f4⟩ := rdC_int undI64 r4.up
  obtain ⟨s3, L3, b3, e3, g3, k3, _, _, q3⟩ := rdB_elems (Q := fun (n : Int) cs x => cs = icell n) undI64s (show Tryz.prog.cellsOf 2 = 1 by kernel_rfl) r3 fun m cs' x _ h => by
    obtain ⟨n, hn, _⟩ := rdC_int undI64 h.up
    exact ⟨n, hn⟩
  obtain ⟨s5, L5, b5, e5, g5, k5, _, t5, q5⟩ := rdB_elems (Q := fun (n : ByteArray) cs x => cs = scell n ∧ n.size < x) (show Tryz.prog.underlying 32 = some (.slice 9) by kernel_rfl) (show Tryz.prog.cellsOf 9 = 1 by kernel_rfl) r5 fun m cs' x _ h => by
    obtain ⟨n, hn, _, hs⟩ := rdB_string undStr h
    exact ⟨n, hn, hs⟩
  obtain ⟨s6, L6, b6, e6, g6, k6, _, t6, q6⟩ := rdB_elems (Q := fun (n : Int × ByteArray) cs x => cs = mcells n ∧ n.2.size < x) (show Tryz.prog.underlying 33 = some (.slice 145) by kernel_rfl) (show Tryz.prog.cellsOf 145 = 2 by kernel_rfl) r6 fun m cs' x hl h => by
    obtain ⟨_, m2, bs2, hb2, hf2⟩ := rdB_struct (L := [(0, 3), (1, 9)]) (by kernel_rfl) h
    obtain ⟨d0, d1, rfl⟩ : ∃ d0 d1, cs' = [d0, d1] := by
      match cs', hl with
      | [d0, d1], _ => exact ⟨d0, d1, rfl⟩
    obtain ⟨u0, v0, w0⟩ := hf2 0 0 3 rfl
    obtain ⟨u1, v1, w1⟩ := hf2 1 1 9 rfl
    rw [show Tryz.prog.cellsOf 3 = 1 by kernel_rfl] at w0
    rw [show Tryz.prog.cellsOf 9 = 1 by kernel_rfl] at w1
    obtain ⟨n, hn, _⟩ := rdC_int undInt w0.up
    obtain ⟨t, ht, _, hs⟩ := rdB_string undStr w1
    obtain rfl : d0 = .int .i64 n := by simpa using hn
    obtain rfl : d1 = .string t := by simpa using ht
    have := sum_get_le v1
    exact ⟨(n, t), rfl, by show t.size < x; omega⟩
  obtain rfl : c0 = .string x0 := by simpa using e0
  obtain rfl : c1 = .bool x1 := by simpa using e1
  obtain rfl : c2 = .int .i64 x2 := by simpa using e2
  obtain rfl : c3 = Slc.v s3 := by simpa using e3
  obtain rfl : c4 = .int .i64 x4 := by simpa using e4
  obtain rfl : c5 = Slc.v s5 := by simpa using e5
  obtain rfl : c6 = Slc.v s6 := by simpa using e6
  refine ⟨(x0, x1, x2, s3, x4, s5, s6), ⟨x0, x1, x2, L3, x4, L5, L6⟩, rfl, ⟨rfl, rfl, rfl, rfl, ?_, ?_, ?_, wf_i64 f2, by show x0.size ≤ _; omega, by show L3.length ≤ _; omega, by show L5.length ≤ _; omega, by show L6.length ≤ _; omega, ?_, ?_⟩⟩
  · refine VRow.make icell_len (by decide) g3 fun i q hi => ?_
    obtain ⟨a, cs', x, _, ha, _, hc, rfl⟩ := q3 i q hi
    exact ⟨a, ha, hc⟩
  · refine VRow.make scell_len (by decide) g5 fun i q hi => ?_
    obtain ⟨a, cs', x, _, ha, _, hc, rfl, _⟩ := q5 i q hi
    exact ⟨a, ha, hc⟩
  · refine VRow.make mcells_len (by decide) g6 fun i q hi => ?_
    obtain ⟨a, cs', x, _, ha, _, hc, rfl, _⟩ := q6 i q hi
    exact ⟨a, ha, hc⟩
  · intro s hs
    obtain ⟨i, hi⟩ := List.mem_iff_getElem?.1 hs
    obtain ⟨a, cs', x, hx, _, _, _, _, hz⟩ := q5 i s hi
    have := sum_get_le hx
    omega
  · intro s hs
    obtain ⟨i, hi⟩ := List.mem_iff_getElem?.1 hs
    obtain ⟨a, cs', x, hx, _, _, _, _, hz⟩ := q6 i s hi
    have := sum_get_le hx
    omega
end Sw
end Go.Proofs.YtcblpehnkogfdaaGreatDoor
