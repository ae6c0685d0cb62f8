/- TopSums: a spoilt sum is told; what is predicted and wrapped comes back. Conditions: sizes; the laid variables. -/
import Derived.Test.YtjkoafjnmkchdaaGreatDoorQIZe9
import Derived.Test.YtjkoafjnmkchdaaGreatDoorRows
import Derived.Test.YtjkoafjnmkchdaaGreatDoorQIZe4
import Derived.WalkKit
import Derived.ProofKit
import Derived.OpenShut
import Derived.Deep.DeepHandedRow
import Derived.Lib.LaidTab
import Derived.LaidMore
import Derived.Maps.OwnSet
import Derived.ChangeSame
namespace Go.Proofs.YtjkoafjnmkchdaaGreatDoor
open Pre (encP decP refuseP rowN headN refuse_ok rowN_spec back_plain okP_spec encN_len okP c_encode c_decode)
namespace Inf
open Sh Bit
set_option linter.unusedVariables false
set_option linter.unusedSimpArgs false
set_option maxRecDepth 4000
set_option maxHeartbeats 1000000
attribute [local irreducible] Ld St Nw Nn Lt LdS
theorem ixor_u8 (x y : UInt8) : ixor .u8 (x.toNat : Int) (y.toNat : Int) = ((x ^^^ y).toNat : Int) := by
  have hx := x.toNat_lt
  have hy := y.toNat_lt
  unfold ixor
  rw [ofInt_nat, ofInt_nat]
  have h1 : (BitVec.ofNat IntKind.u8.bits x.toNat ^^^ BitVec.ofNat IntKind.u8.bits y.toNat).toNat = x.toNat ^^^ y.toNat := by
    rw [BitVec.toNat_xor, BitVec.toNat_ofNat, BitVec.toNat_ofNat, Nat.mod_eq_of_lt (by simpa [IntKind.bits] using hx), Nat.mod_eq_of_lt (by simpa [IntKind.bits] using hy)]
  rw [h1, ← UInt8.toNat_xor]
  have := (x ^^^ y).toNat_lt
  exact u8_id (by omega)
theorem xor_same (x y : UInt8) : x ^^^ y = x ↔ y = 0 := by
  constructor
  · intro h
    have : x ^^^ (x ^^^ y) = x ^^^ x := congrArg (x ^^^ ·) h
    rwa [← UInt8.xor_assoc, UInt8.xor_self, UInt8.zero_xor] at this
  · intro h
    rw [h, UInt8.xor_zero]
theorem back_any {p : Int × Int × Int} {s x : List UInt8} (hl : s.length ≤ 1000) (h : encP p s = (x, 0)) : decP p x = (s, 0) ∧ x.length ≤ 2 * s.length := by
  have h' := h
  unfold encP at h
  by_cases hr : refuseP p s.length (rowN p) ≠ 0
  · rw [if_pos hr] at h
    exact absurd (Prod.mk.inj h).2 hr
  · rw [if_neg hr] at h
    have hr : refuseP p s.length (rowN p) = 0 := by simpa using hr
    obtain ⟨hok, h2, h3⟩ := refuse_ok hr
    by_cases h1 : p.1 = 1
    · rw [if_pos h1] at h
      obtain ⟨rfl, _⟩ := Prod.mk.inj h
      refine ⟨?_, by omega⟩
      unfold decP
      have : refuseP p s.length ((rowN p + headN p : Nat) : Int) = 0 := by
        unfold refuseP
        rw [if_neg (by rw [hok]; decide), if_neg (by omega), if_neg (fun k => k.1 h1)]
      rw [this, if_neg (fun k => k rfl), if_pos h1]
    · obtain ⟨_, hn1, hn2⟩ := rowN_spec p
      have hm := h3 h1
      rw [tmod_id (by omega)] at hm
      have hm : s.length % rowN p = 0 := by omega
      obtain ⟨x', e1, e2⟩ := back_plain hok hl hm
      rw [h'] at e1
      obtain ⟨rfl, _⟩ := Prod.mk.inj e1
      refine ⟨e2, ?_⟩
      rw [if_neg h1] at h
      split at h
      · cases (Prod.mk.inj h).2
      · obtain ⟨rfl, _⟩ := Prod.mk.inj h
        have hspec := okP_spec hok
        have hp : p.1 = 2 ∧ headN p = 0 ∨ 10 ≤ p.1 ∧ headN p = 1 := by
          unfold headN
          split <;> omega
        have hk : s.length = s.length / rowN p * rowN p := (Nat.div_mul_cancel (Nat.dvd_of_mod_eq_zero hm)).symm
        have hdle : s.length / rowN p ≤ s.length := Nat.div_le_self _ _
        rw [encN_len (colors := p.2.1.toNat) hp (s.length / rowN p) [] s hk, Nat.mul_add]
        generalize s.length / rowN p = k at *
        have hkh : k * headN p ≤ k := by
          rcases hp with ⟨_, h⟩ | ⟨_, h⟩
          · rw [h, Nat.mul_zero]; exact Nat.zero_le _
          · rw [h, Nat.mul_one]; exact Nat.le_refl _
        omega
theorem topSums_law (S : ByteArray) (at2 : Int) {by3 : Int} (hb3 : 0 ≤ by3 ∧ by3 ≤ 255) (ha2 : -9223372036854775808 ≤ at2 ∧ at2 ≤ 9223372036854775807) (p : Int × Int × Int) {N : Nat} {w : World} (hL : Laid N w) : C4 S at2 by3 p w (fun r w1 => r = true ∧ Ext (fun _ => False) w w1) (fun _ _ => False) := by
  have hsz : S.data.toList.length = S.size := (size_list S).symm
  have hmax : IntKind.i64.max = 9223372036854775807 := rfl
  obtain ⟨b, rfl⟩ : ∃ b : UInt8, by3 = (b.toNat : Int) := ⟨UInt8.ofNat by3.toNat, by rw [UInt8.toNat_ofNat']; omega⟩
  refine T4 _ _ _ _ _ _ _ ?_
  unfold S4
  refine (Hn.start w).nw fun w5 H => ?_
  simp only [List.nil_append] at H
  refine (c_Wrap (S := ⟨#[97]⟩) (by decide) (lv := 1) (by decide) (by decide) w5).mono ?_ fun _ _ h => h
  rintro r e w8 ⟨rfl, ⟨T, rfl, g, h1, _, _⟩, e8⟩
  have H := H.keep e8
  have s97 : (⟨#[97]⟩ : ByteArray).size = 1 := rfl
  rw [s97] at h1
  have l97 : (⟨#[97]⟩ : ByteArray).data.toList = [97] := rfl
  rw [l97] at g ⊢
  have hw : ∀ (T s : List UInt8), wrapT T s = 120 :: 156 :: (T ++ fourL (adler 1 s)) := fun T s => rfl
  rw [hw]
  have hun := unwrap_at (R := fourL (adler 1 [97])) h156 g (by decide) (most := 9) (by decide)
  rw [if_neg (by decide), List.take_of_length_le (by decide), if_pos rfl] at hun
  refine (c_Unwrap (s := ⟨(120 :: 156 :: (T ++ fourL (adler 1 [97]))).toArray⟩) (by rw [size_mk]; simp [fourL_len]; omega) (hL.to H.ext) 9).mono ?_
  rintro r12 r13 w14 ⟨h, e14⟩
  rw [hun] at h
  obtain ⟨rfl, rfl⟩ := Prod.mk.inj h
  have H := H.keep e14
  refine Br.f (by rw [eqL]; rfl) (Br.f rfl (Br.f rfl (Br.dec (fun _ => ⟨rfl, H.ext⟩) fun q1 => Br.dec (fun _ => ⟨rfl, H.ext⟩) fun q2 => Br.dec (fun _ => ⟨rfl, H.ext⟩) fun q3 => ?_)))
  refine (c_Wrap (S := S) (by omega) (lv := 2) (by decide) (by decide) w14).mono ?_ fun _ _ h => h
  rintro r e w17 ⟨rfl, ⟨T, rfl, g, h1, _, _⟩, e17⟩
  have H := H.keep e17
  obtain ⟨a, rfl⟩ : ∃ a : Nat, at2 = (a : Int) := ⟨at2.toNat, by omega⟩
  have ha : a < 4 := by omega
  rw [hw]
  generalize hn : adler 1 S.data.toList = n
  have hwl : (120 :: 156 :: (T ++ fourL n)).length = T.length + 6 := by simp [fourL_len]
  have hws : (⟨(120 :: 156 :: (T ++ fourL n)).toArray⟩ : ByteArray).size = T.length + 6 := by rw [size_mk, hwl]
  rw [hws]
  have ei : IntKind.i64.wrap (IntKind.i64.wrap (((T.length + 6 : Nat) : Int) - 4) + (a : Int)) = ((T.length + 2 + a : Nat) : Int) := by
    rw [i64_id (n := ((T.length + 6 : Nat) : Int) - 4) (by omega), i64_id (by omega)]
    omega
  have ei1 : IntKind.i64.wrap (((T.length + 2 + a : Nat) : Int) + 1) = ((T.length + 2 + a + 1 : Nat) : Int) := by rw [i64_id (by omega)]; rfl
  have hbA : bAt (⟨(120 :: 156 :: (T ++ fourL n)).toArray⟩ : ByteArray) ((T.length + 2 + a : Nat) : Int) = (((fourL n).getD a 0).toNat : Int) := by
    rw [bAt_list, mk_list, List.getD_eq_getElem?_getD, show T.length + 2 + a = (T.length + a) + 1 + 1 by omega, List.getElem?_cons_succ, List.getElem?_cons_succ, List.getElem?_append_right (by omega), Nat.add_sub_cancel_left, List.getD_eq_getElem?_getD]
  rw [ei, ei1, Int.toNat_natCast, Int.toNat_natCast, hbA, ixor_u8]
  refine Br.f rfl (Br.dec (fun q => absurd q (by omega)) fun _ => ⟨by omega, by omega, by omega, by omega, by omega, by omega, Nw.of ?_⟩)
  obtain ⟨c, hc⟩ : ∃ c, c = (fourL n).getD a 0 ^^^ b := ⟨_, rfl⟩
  rw [← hc]
  obtain ⟨w20, hrun, e20⟩ := c_byte1 c w17.drew
  refine ⟨_, w20, hrun, ?_⟩
  have H := H.drew.keep e20
  have sb : (⟨#[c]⟩ : ByteArray).size = 1 := rfl
  refine ⟨by rw [hmax, ByteArray.size_extract, hws, sb]; omega, by rw [hmax, ByteArray.size_append, ByteArray.size_extract, ByteArray.size_extract, hws, sb]; omega, Lt.of ?_⟩
  have hcut : ((⟨(120 :: 156 :: (T ++ fourL n)).toArray⟩ : ByteArray).extract 0 (T.length + 2 + a) ++ ⟨#[c]⟩) ++ (⟨(120 :: 156 :: (T ++ fourL n)).toArray⟩ : ByteArray).extract (T.length + 2 + a + 1) (T.length + 6) = ⟨(120 :: 156 :: (T ++ (fourL n).set a c)).toArray⟩ := by
    refine ba_ext ?_
    have x1 : ((⟨(120 :: 156 :: (T ++ fourL n)).toArray⟩ : ByteArray).extract (T.length + 2 + a + 1) (T.length + 6)).data.toList = (120 :: 156 :: (T ++ fourL n)).drop (T.length + 2 + a + 1) := by
      have := extract_drop (⟨(120 :: 156 :: (T ++ fourL n)).toArray⟩ : ByteArray) (T.length + 2 + a + 1)
      rw [hws, mk_list] at this
      exact this
    rw [app_list, app_list, x1, extract_list, mk_list, mk_list, mk_list, List.drop_zero, Nat.sub_zero]
    have hs := set_mid (120 :: 156 :: (T ++ fourL n)) (i := T.length + 2 + a) (by rw [hwl]; omega) c
    rw [hs, show T.length + 2 + a = (T.length + a) + 1 + 1 by omega, List.set_cons_succ, List.set_cons_succ, List.set_append_right _ _ (by omega), Nat.add_sub_cancel_left]
  rw [hcut]
  have hb : S.data.toList.length ≤ 1048576 := by omega
  have hset : ((fourL n).set a c).length = 4 := by rw [List.length_set]; rfl
  have hun := unwrap_at (R := (fourL n).set a c) h156 g hb (most := ((S.size : Nat) : Int)) (by omega)
  rw [if_neg (by omega), List.take_of_length_le (by omega), hn, of_list] at hun
  refine (c_Unwrap (s := ⟨(120 :: 156 :: (T ++ (fourL n).set a c)).toArray⟩) (by rw [size_mk]; simp [fourL_len]; omega) (hL.to H.ext) _).mono ?_
  rintro r22 r23 w24 ⟨h, e24⟩
  rw [hun] at h
  have H := H.keep e24
  have fs := four_set (n := n) ha c
  have hx : (fourL n).getD a 0 = c ↔ b = 0 := by rw [hc, eq_comm]; exact xor_same _ _
  refine ⟨fun _ w5 => Hn w w5 [(w.heap.size, [.int .i64 p.1, .int .i64 p.2.1, .int .i64 p.2.2], 28)], ?_, ?_⟩
  · rintro _ w26 H
    unfold S4J1
    iterate 3 refine H.ld 0 rfl rfl ?_
    refine (c_encode (p.1, p.2.1, p.2.2) S w26).mono ?_
    rintro x e w32 ⟨hE, e32⟩
    have H := H.keep e32
    refine Br.ne (fun _ => ⟨rfl, H.ext⟩) fun he => ?_
    subst he
    obtain ⟨hD, hxl⟩ := back_any (by omega) hE.symm
    have hxs : x.data.toList.length = x.size := (size_list x).symm
    refine (c_Wrap (S := x) (by omega) (lv := 1) (by decide) (by decide) w32).mono ?_ fun _ _ h => h
    rintro r e w35 ⟨rfl, ⟨T, rfl, g, h1, _, _⟩, e35⟩
    have H := H.keep e35
    rw [hw]
    have hun := unwrap_at (R := fourL (adler 1 x.data.toList)) h156 g (by omega) (most := ((x.size : Nat) : Int)) (by omega)
    rw [if_neg (by rw [fourL_len]; omega), List.take_of_length_le (by rw [fourL_len]; omega), if_pos rfl, of_list] at hun
    refine (c_Unwrap (s := ⟨(120 :: 156 :: (T ++ fourL (adler 1 x.data.toList))).toArray⟩) (by rw [size_mk]; simp [fourL_len]; omega) (hL.to H.ext) _).mono ?_
    rintro r36 r37 w38 ⟨h, e38⟩
    rw [hun] at h
    obtain ⟨hx, rfl⟩ := Prod.mk.inj h
    replace hx := hx.symm
    subst hx
    have H := H.keep e38
    iterate 3 refine H.ld 0 rfl rfl ?_
    refine (c_decode (p.1, p.2.1, p.2.2) x w38).mono ?_
    rintro y e w44 ⟨hY, e44⟩
    have H := H.keep e44
    rw [hD] at hY
    obtain ⟨hy, rfl⟩ := Prod.mk.inj hY
    exact Br.t rfl (Br.t rfl (Br.t (by simp) (Br.t rfl ⟨by rw [eqL, hy]; simp, H.ext⟩)))
  · by_cases hq : b = 0
    · rw [if_pos (fs.2 (hx.2 hq))] at h
      obtain ⟨hxx, rfl⟩ := Prod.mk.inj h
      replace hxx := hxx.symm
      subst hxx
      subst hq
      exact Br.t rfl (Br.f rfl (Br.f (by rw [eqL]; simp) (Br.f rfl H)))
    · rw [if_neg (fun e => hq (hx.1 (fs.1 e)))] at h
      obtain ⟨rfl, rfl⟩ := Prod.mk.inj h
      have hne : ¬ (b.toNat : Int) = 0 := fun e => hq (UInt8.toNat_inj.1 (by show b.toNat = 0; omega))
      exact Br.f (by rw [beq_eq_false_iff_ne]; exact hne) (Br.t (by rw [bne_iff_ne]; exact hne) (Br.f rfl (Br.f (by rw [eqL]; rfl) H)))
end Inf
end Go.Proofs.YtjkoafjnmkchdaaGreatDoor

/- Inflate: what the laid variables give the walks. Condition: the rows' own list. -/
namespace Go.Proofs.YtjkoafjnmkchdaaGreatDoor
namespace InfZ
open Inf
open Sh Bit
open Go.ChangeShapes Go.WideShapes Go.ChangeAt Go.RowKit Go.WideElems Go.Maps
set_option linter.unusedVariables false
set_option linter.unusedSimpArgs false
set_option maxRecDepth 100000
theorem gOrd : Tryz.prog.globalNamed "foliant/inflate.order" = some 0 := by kernel_rfl
theorem gRep : Tryz.prog.globalNamed "foliant/inflate.repeats" = some 1 := by kernel_rfl
theorem tOrd : (Tryz.prog.globals[0]?).map (·.type) = some 108 := by kernel_rfl
theorem tRep : (Tryz.prog.globals[1]?).map (·.type) = some 159 := by kernel_rfl
theorem undInt : Tryz.prog.underlying 3 = some (.int .i64) := by kernel_rfl
theorem und19 : Tryz.prog.underlying 108 = some (.array 19 3) := by kernel_rfl
theorem undRep : Tryz.prog.underlying 159 = some (.map 3 157) := by kernel_rfl
theorem cInt : Tryz.prog.cellsOf 3 = 1 := by kernel_rfl
theorem c19 : Tryz.prog.cellsOf 108 = 19 := by kernel_rfl
theorem c2 : Tryz.prog.cellsOf 157 = 2 := by kernel_rfl
theorem undR : ∃ f0 f1 : Field, Tryz.prog.underlying 157 = some (.struct #[f0, f1]) ∧ f0.type = 3 ∧ f1.type = 3 ∧ f0.offset = 0 ∧ f1.offset = 1 := by
  refine ⟨⟨"least", 3, 0, false, "", "foliant/inflate", 0⟩, ⟨"more", 3, 1, false, "", "foliant/inflate", 8⟩, by kernel_rfl, rfl, rfl, rfl, rfl⟩
theorem zeroR (w : World) : (zeroValue 157).run Tryz.prog w = .ok (.agg #[.int .i64 0, .int .i64 0]) w := by kernel_rfl
theorem val2 {H : Type} {enc : TypeId × Value → H} {W : World} {base m : Nat} {sp : Nat → Bool} {held : Bool} {v : Value} {y : DataW H × List MemPlace} (h : elemAt enc Tryz.prog W base sp held m 157 v = some y) :
    ∃ a b : Int, v = .agg #[.int .i64 a, .int .i64 b] ∧ y.1 = .agg [.lit (.int .i64 a), .lit (.int .i64 b)] := by
  obtain ⟨f0, f1, hu, t0, t1, o0, o1⟩ := undR
  unfold elemAt at h
  split at h
  · rename_i hf
    obtain ⟨y0, y1, n, rfl, hl, h0, h1⟩ := trod_struct2 hu h
    rw [t0, o0, cInt] at h0
    rw [t1, o1, cInt] at h1
    obtain ⟨a, e0, rfl, _⟩ := DataW.trod_int undInt h0
    obtain ⟨b, e1, rfl, _⟩ := DataW.trod_int undInt h1
    refine ⟨a, b, ?_, rfl⟩
    rw [c2] at hl
    have hcs : v.cells.toList = [.int .i64 a, .int .i64 b] := by
      match hv : v.cells.toList, hl with
      | [c0, c1], _ =>
        rw [hv] at e0 e1
        simp at e0 e1
        rw [e0, e1]
    cases v with
    | agg cs =>
      have : cs.toList = [.int .i64 a, .int .i64 b] := hcs
      congr 1
      exact Array.ext' this
    | _ => simp [Value.formed, hu] at hf
  · cases h
theorem of_laid {W : World} (h : laidMetH Tryz.prog Rows.topSumsRow.laid W) : Laid W.heap.size W := by
  have h : laidMetH Tryz.prog [("foliant/inflate.order", Rows.laid_foliant_inflate_order), ("foliant/inflate.repeats", Rows.laid_foliant_inflate_repeats)] W := h
  rw [MakeChecks.laidMetH_plain _ _ _ (by kernel_rfl)] at h
  have ht := Lib.tabIs_of_head (k := .i64) (zs := [16, 17, 18, 0, 8, 7, 9, 6, 10, 5, 11, 4, 12, 3, 13, 2, 14, 1, 15]) (rest := [("foliant/inflate.repeats", Rows.laid_foliant_inflate_repeats)]) gOrd tOrd und19 undInt cInt c19 h
  obtain ⟨ps, ⟨g0, t0, cs0, f0, p0, q0, hg0, ht0, hv0, hd0, ⟨g1, t1, cs1, f1, p1, q1, hg1, ht1, hv1, hd1, _, _⟩, _⟩, _, _⟩ := h
  obtain rfl := Option.some.inj (gRep.symm.trans hg1)
  obtain rfl := Option.some.inj (tRep.symm.trans ht1)
  rcases Go.WideElems.open_map undRep hd1 with ⟨_, hx⟩ | ⟨bm, es, clock, m, rfl, hcs, hb, _, F, hx⟩
  · simp [Rows.laid_foliant_inflate_repeats] at hx
  simp only [Prod.mk.injEq] at hx
  have hcell : W.cell? ⟨1, 0, none⟩ = some (.map (some bm)) := by
    have := World.var?_cell hg1 hv1 0
    rw [Array.eq_one_of_toList hcs] at this
    simpa using this
  have hz := cell_lt' hcell
  have hz : 1 < W.heap.size := hz
  have hbm := lt_of_block hb
  refine ⟨by omega, Nat.le_refl _, fun i hi => ?_, bm, _, hbm, hb, hcell, fun w' hw' n hn0 hn19 => ?_⟩
  · have hc := ht.cell gOrd i hi
    rw [hc]
    congr 2
    have : ∀ i : Nat, i < 19 → ([16, 17, 18, 0, 8, 7, 9, 6, 10, 5, 11, 4, 12, 3, 13, 2, 14, 1, 15] : List Int).getD i 0 = ((order.getD i 0 : Nat) : Int) := by decide
    first | exact this i hi | (rw [← this i hi]; simp)
  · have key : ∀ d : DataW Unit, (Rows.laid_foliant_inflate_repeats : DataW Unit).atKey (.int .i64 n) .nil = d → (d = .nil → repV n = ((0, 0), false)) → (∀ a b : Int, d = .agg [.lit (.int .i64 a), .lit (.int .i64 b)] → repV n = ((a, b), true)) → RunV Tryz.prog (Instr.lookup 159 (.map (some bm)) (.int .i64 n) true) w' (.tuple #[.agg #[.int .i64 (repV n).1.1, .int .i64 (repV n).1.2], .bool (repV n).2]) w' := fun d hd hA hB => by
      rcases fit_look (w := w') true (int_keyed undInt) undRep (zeroR w') hw' F (keyOf_int_mk undInt (WalkArith.wf_i64 (n := n) ⟨by omega, by omega⟩)) with ⟨hrun, _, hat⟩ | ⟨e0, y, _, _, hrun, hR, hat, _⟩
      · have := hat .nil
        rw [← hx.1, hd] at this
        rw [hA this]
        exact hrun
      · have := hat .nil
        rw [← hx.1, hd] at this
        obtain ⟨a, b, hv, hy⟩ := val2 hR
        rw [hB a b (this.trans hy)]
        rw [hv] at hrun
        exact hrun
    obtain ⟨k, rfl⟩ := Int.eq_ofNat_of_zero_le hn0
    have hk : k < 19 := by omega
    have hc : k = 0 ∨ k = 1 ∨ k = 2 ∨ k = 3 ∨ k = 4 ∨ k = 5 ∨ k = 6 ∨ k = 7 ∨ k = 8 ∨ k = 9 ∨ k = 10 ∨ k = 11 ∨ k = 12 ∨ k = 13 ∨ k = 14 ∨ k = 15 ∨ k = 16 ∨ k = 17 ∨ k = 18 := by omega
    rcases hc with rfl | rfl | rfl | rfl | rfl | rfl | rfl | rfl | rfl | rfl | rfl | rfl | rfl | rfl | rfl | rfl | rfl | rfl | rfl
    all_goals
      first
      | exact key .nil (by kernel_rfl) (fun _ => rfl) fun a b h => by cases h
      | exact key (.agg [.lit (.int .i64 3), .lit (.int .i64 2)]) (by kernel_rfl) (fun h => by cases h) fun a b h => by cases h; rfl
      | exact key (.agg [.lit (.int .i64 3), .lit (.int .i64 3)]) (by kernel_rfl) (fun h => by cases h) fun a b h => by cases h; rfl
      | exact key (.agg [.lit (.int .i64 11), .lit (.int .i64 7)]) (by kernel_rfl) (fun h => by cases h) fun a b h => by cases h; rfl
end InfZ
end Go.Proofs.YtjkoafjnmkchdaaGreatDoor

/- Joined. -/
