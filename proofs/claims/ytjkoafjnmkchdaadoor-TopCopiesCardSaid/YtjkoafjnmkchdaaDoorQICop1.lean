/- TopCopies: parts, unparts, and a doubled string. Conditions: sizes; the laid variables. -/
import Derived.Test.YtjkoafjnmkchdaaDoorQIZs9
import Derived.Test.YtjkoafjnmkchdaaDoorRows
import Derived.Test.YtjkoafjnmkchdaaDoorQIZs4
import Derived.WalkKit
import Derived.ProofKit
import Derived.OpenShut
import Derived.Deep.DeepHandedRow
import Derived.Lib.LaidTab
import Derived.LaidMore
import Derived.Maps.OwnSet
import Derived.ChangeSame
namespace Go.Proofs.YtjkoafjnmkchdaaDoor
namespace Inf
open Sh Bit
set_option linter.unusedVariables false
set_option linter.unusedSimpArgs false
set_option maxRecDepth 4000
set_option maxHeartbeats 1000000
attribute [local irreducible] Ld St Nw Nn Lt LdS
theorem partsS_back (s : List UInt8) (h : s.length ≤ 1048576) : unR ((partsS s).map rawP) = (⟨s.toArray⟩, 0) := by
  obtain ⟨a, b⟩ := partsS_fit s
  unfold unR
  rw [unQ_fit _ _ a (by rw [b]; exact h), b]
theorem partsQ_wf (s : List UInt8) : ∀ q ∈ (partsS s).map rawP, 0 ≤ q.1 ∧ q.1 ≤ 255 := fun q hq => by
  obtain ⟨p, _, rfl⟩ := List.mem_map.1 hq
  have := p.b.toNat_lt
  exact ⟨by show 0 ≤ ((p.b.toNat : Nat) : Int); omega, by show ((p.b.toNat : Nat) : Int) ≤ 255; omega⟩
theorem eP6 : (partsS (⟨#[97, 98, 99, 97, 98, 99]⟩ : ByteArray).data.toList).map rawP = [(97, 0, 0), (98, 0, 0), (99, 0, 0), (0, 3, 3)] := by decide +kernel
theorem copies_law (S : ByteArray) {N : Nat} {w : World} (hL : Laid N w) : C7 S w (fun r w1 => r = true ∧ Ext (fun _ => False) w w1) (fun _ _ => False) := by
  have hsz : S.data.toList.length = S.size := (size_list S).symm
  have hmax : IntKind.i64.max = 9223372036854775807 := rfl
  refine T7 _ _ _ _ ?_
  unfold S7
  refine (c_Parts (S := ⟨#[97, 98, 99, 97, 98, 99]⟩) (by decide) w).mono ?_
  rintro r8 w9 ⟨hP, e9⟩
  rw [eP6] at hP
  have hl : ((r8.len : Nat) : Int) = 4 := by rw [hP.1]; rfl
  obtain ⟨a, ha, c0, c1, c2⟩ := hP.get (i := 3) (o := (0, 3, 3)) rfl
  rw [hl, ha]
  refine Br.ne (fun h => (h rfl).elim) fun _ => ⟨by decide, by omega, Nn.of (Ld.mk (x := 3) c1 ?_)⟩
  refine Br.ne (fun h => (h rfl).elim) fun _ => ⟨by decide, by omega, Nn.of (Ld.mk (x := 3) c2 ?_)⟩
  refine Br.ne (fun h => (h rfl).elim) fun _ => Br.dec (fun _ => ⟨rfl, e9⟩) fun q1 => ?_
  refine (c_Parts (S := S) (by omega) w9).mono ?_
  rintro r14 w15 ⟨P14, e15⟩
  obtain ⟨hfit, hfold⟩ := partsS_fit S.data.toList
  have hpl : (partsS S.data.toList).length ≤ S.data.toList.length := partsF_len _ _ _
  have back := partsS_back S.data.toList (by omega)
  have hwf := partsQ_wf S.data.toList
  refine (c_Unparts P14 hwf (by rw [List.length_map]; omega)).mono ?_
  rintro r16 r17 w18 ⟨h, e18⟩
  rw [back] at h
  have eS : (⟨S.data.toList.toArray⟩ : ByteArray) = S := ba_ext (by simp)
  rw [eS] at h
  obtain ⟨h16, rfl⟩ := Prod.mk.inj h
  replace h16 := h16.symm
  subst h16
  have E18 := (e9.tr e15).tr e18
  have P18 := P14.keep e18
  generalize partsS S.data.toList = l at P18 hfold hpl
  refine ⟨fun m st w3 => ∃ i : Nat, st.1 = ((((l.take i).foldl addP []).length : Nat) : Int) ∧ st.2 = (i : Int) ∧ i ≤ l.length ∧ m = l.length - i ∧ Ext (fun _ => False) w18 w3, l.length, ⟨0, rfl, rfl, Nat.zero_le _, rfl, Ext.refl _ _⟩, ?_⟩
  rintro m ⟨t, i'⟩ w3 ⟨i, ht, hi', hi, rfl, he⟩
  simp only at ht hi'
  subst ht hi'
  unfold S7L1
  dsimp only
  have hlen : r14.len = l.length := by rw [P18.1, List.length_map]
  rw [hlen]
  refine Br.dec (fun q => ?_) fun q => ?_
  · have hil : i < l.length := by omega
    have hio : (l.map rawP)[i]? = some (rawP l[i]) := by rw [List.getElem?_map, List.getElem?_eq_getElem hil]; rfl
    obtain ⟨a, ha, c0, c1, c2⟩ := (P18.keep he).get hio
    have htk : (l.take (i + 1)).foldl addP [] = addP ((l.take i).foldl addP []) l[i] := by
      rw [List.take_add_one, List.getElem?_eq_getElem hil, List.foldl_append]
      rfl
    have hle : ((l.take (i + 1)).foldl addP []).length ≤ S.size := by
      have h2 := foldl_len (l.drop (i + 1)) ((l.take (i + 1)).foldl addP [])
      rw [← List.foldl_append, List.take_append_drop, hfold] at h2
      omega
    rw [htk, addP_len] at hle
    generalize l[i] = p at *
    obtain ⟨pb, pn, pf⟩ := p
    rw [ha]
    refine ⟨by omega, by omega, Nn.of ?_⟩
    rw [Int.toNat_natCast]
    refine Ld.mk (x := (pb.toNat : Int)) c0 (Ld.mk (x := (pn : Int)) c1 (Ld.mk (x := (pf : Int)) c2 ?_))
    refine (Hn.start w3).nw fun w4 H => ?_
    simp only [List.nil_append] at H
    iterate 3 (refine H.st 0 rfl (by simp) fun _ H => ?_; simp only [List.nil_append, List.cons_append, List.set_cons_zero, List.set_cons_succ, Nat.zero_add] at H)
    iterate 1 refine H.ld 0 rfl rfl ?_
    refine ⟨l.length - (i + 1), by omega, i + 1, ?_, by rw [i64_id (by omega)]; rfl, by omega, rfl, he.tr H.ext⟩
    rw [max1, i64_id (by dsimp only at hle; omega), htk, addP_len]
    dsimp only
    omega
  · have : i = l.length := by omega
    subst this
    rw [List.take_length, hfold, hsz]
    have E3 := E18.tr he
    have hbq : (!(S.toList == S.toList)) = false := by simp
    refine Br.ne (fun h => (h rfl).elim) fun _ => Br.f hbq (Br.ne (fun h => (h rfl).elim) fun _ => ⟨by rw [hmax]; omega, ?_⟩)
    have hU : (S ++ S).size = S.size + S.size := ByteArray.size_append
    generalize S ++ S = U at hU
    refine (c_AllW (S := U) (by omega) (lv := 2) (by decide) (by decide) w3).mono ?_ fun _ _ h => h
    rintro r e w13 ⟨rfl, ⟨T, rfl, g, h1, h2, _⟩, e13⟩
    have hUl : U.data.toList.length = U.size := (size_list U).symm
    have hR := Gives.allR g (by omega) (most := 2 * ((S.size : Nat) : Int)) (by omega)
    have eU : (⟨U.data.toList.toArray⟩ : ByteArray) = U := ba_ext (by simp)
    rw [eU] at hR
    rw [i64_id (n := 2 * ((S.size : Nat) : Int)) (by omega)]
    refine (c_All (s := ⟨T.toArray⟩) (by rw [size_mk]; omega) (hL.to (E3.tr e13)) _).mono ?_
    rintro a b c w17 ⟨h, e17⟩
    rw [hR] at h
    simp only [Prod.mk.injEq] at h
    obtain ⟨ha, rfl, rfl⟩ := h
    replace ha := ha.symm
    subst ha
    exact Br.t rfl (Br.t rfl ⟨by omega, by simp, (E3.tr e13).tr e17⟩)
end Inf
end Go.Proofs.YtjkoafjnmkchdaaDoor

/- Inflate: what the laid variables give the walks. Condition: the rows' own list. -/
namespace Go.Proofs.YtjkoafjnmkchdaaDoor
namespace InfZ
open Inf
open Sh Bit
open Go.ChangeShapes Go.WideShapes Go.ChangeAt Go.RowKit Go.WideElems Go.Maps
set_option linter.unusedVariables false
set_option linter.unusedSimpArgs false
set_option maxRecDepth 100000
theorem gOrd : Tryd.prog.globalNamed "foliant/inflate.order" = some 0 := by kernel_rfl
theorem gRep : Tryd.prog.globalNamed "foliant/inflate.repeats" = some 1 := by kernel_rfl
theorem tOrd : (Tryd.prog.globals[0]?).map (·.type) = some 86 := by kernel_rfl
theorem tRep : (Tryd.prog.globals[1]?).map (·.type) = some 143 := by kernel_rfl
theorem undInt : Tryd.prog.underlying 3 = some (.int .i64) := by kernel_rfl
theorem und19 : Tryd.prog.underlying 86 = some (.array 19 3) := by kernel_rfl
theorem undRep : Tryd.prog.underlying 143 = some (.map 3 141) := by kernel_rfl
theorem cInt : Tryd.prog.cellsOf 3 = 1 := by kernel_rfl
theorem c19 : Tryd.prog.cellsOf 86 = 19 := by kernel_rfl
theorem c2 : Tryd.prog.cellsOf 141 = 2 := by kernel_rfl
theorem undR : ∃ f0 f1 : Field, Tryd.prog.underlying 141 = some (.struct #[f0, f1]) ∧ f0.type = 3 ∧ f1.type = 3 ∧ f0.offset = 0 ∧ f1.offset = 1 := by
  refine ⟨⟨"least", 3, 0, false, "", "foliant/inflate", 0⟩, ⟨"more", 3, 1, false, "", "foliant/inflate", 8⟩, by kernel_rfl, rfl, rfl, rfl, rfl⟩
theorem zeroR (w : World) : (zeroValue 141).run Tryd.prog w = .ok (.agg #[.int .i64 0, .int .i64 0]) w := by kernel_rfl
theorem val2 {H : Type} {enc : TypeId × Value → H} {W : World} {base m : Nat} {sp : Nat → Bool} {held : Bool} {v : Value} {y : DataW H × List MemPlace} (h : elemAt enc Tryd.prog W base sp held m 141 v = some y) :
    ∃ a b : Int, v = .agg #[.int .i64 a, .int .i64 b] ∧ y.1 = .agg [.lit (.int .i64 a), .lit (.int .i64 b)] := by
  obtain ⟨f0, f1, hu, t0, t1, o0, o1⟩ := undR
  unfold elemAt at h
  split at h
  · rename_i hf
    obtain ⟨y0, y1, n, rfl, hl, h0, h1⟩ := trod_struct2 hu h
    rw [t0, o0, cInt] at h0
    rw [t1, o1, cInt] at h1
    obtain ⟨a, e0, rfl, _⟩ := DataW.trod_int undInt h0
    obtain ⟨b, e1, rfl, _⟩ := DataW.trod_int undInt h1
    refine ⟨a, b, ?_, rfl⟩
    rw [c2] at hl
    have hcs : v.cells.toList = [.int .i64 a, .int .i64 b] := by
      match hv : v.cells.toList, hl with
      | [c0, c1], _ =>
        rw [hv] at e0 e1
        simp at e0 e1
        rw [e0, e1]
    cases v with
    | agg cs =>
      have : cs.toList = [.int .i64 a, .int .i64 b] := hcs
      congr 1
      exact Array.ext' this
    | _ => simp [Value.formed, hu] at hf
  · cases h
theorem of_laid {W : World} (h : laidMetH Tryd.prog Rows.topCopiesRow.laid W) : Laid W.heap.size W := by
  have h : laidMetH Tryd.prog [("foliant/inflate.order", Rows.laid_foliant_inflate_order), ("foliant/inflate.repeats", Rows.laid_foliant_inflate_repeats)] W := h
  rw [MakeChecks.laidMetH_plain _ _ _ (by kernel_rfl)] at h
  have ht := Lib.tabIs_of_head (k := .i64) (zs := [16, 17, 18, 0, 8, 7, 9, 6, 10, 5, 11, 4, 12, 3, 13, 2, 14, 1, 15]) (rest := [("foliant/inflate.repeats", Rows.laid_foliant_inflate_repeats)]) gOrd tOrd und19 undInt cInt c19 h
  obtain ⟨ps, ⟨g0, t0, cs0, f0, p0, q0, hg0, ht0, hv0, hd0, ⟨g1, t1, cs1, f1, p1, q1, hg1, ht1, hv1, hd1, _, _⟩, _⟩, _, _⟩ := h
  obtain rfl := Option.some.inj (gRep.symm.trans hg1)
  obtain rfl := Option.some.inj (tRep.symm.trans ht1)
  rcases Go.WideElems.open_map undRep hd1 with ⟨_, hx⟩ | ⟨bm, es, clock, m, rfl, hcs, hb, _, F, hx⟩
  · simp [Rows.laid_foliant_inflate_repeats] at hx
  simp only [Prod.mk.injEq] at hx
  have hcell : W.cell? ⟨1, 0, none⟩ = some (.map (some bm)) := by
    have := World.var?_cell hg1 hv1 0
    rw [Array.eq_one_of_toList hcs] at this
    simpa using this
  have hz := cell_lt' hcell
  have hz : 1 < W.heap.size := hz
  have hbm := lt_of_block hb
  refine ⟨by omega, Nat.le_refl _, fun i hi => ?_, bm, _, hbm, hb, hcell, fun w' hw' n hn0 hn19 => ?_⟩
  · have hc := ht.cell gOrd i hi
    rw [hc]
    congr 2
    have : ∀ i : Nat, i < 19 → ([16, 17, 18, 0, 8, 7, 9, 6, 10, 5, 11, 4, 12, 3, 13, 2, 14, 1, 15] : List Int).getD i 0 = ((order.getD i 0 : Nat) : Int) := by decide
    first | exact this i hi | (rw [← this i hi]; simp)
  · have key : ∀ d : DataW Unit, (Rows.laid_foliant_inflate_repeats : DataW Unit).atKey (.int .i64 n) .nil = d → (d = .nil → repV n = ((0, 0), false)) → (∀ a b : Int, d = .agg [.lit (.int .i64 a), .lit (.int .i64 b)] → repV n = ((a, b), true)) → RunV Tryd.prog (Instr.lookup 143 (.map (some bm)) (.int .i64 n) true) w' (.tuple #[.agg #[.int .i64 (repV n).1.1, .int .i64 (repV n).1.2], .bool (repV n).2]) w' := fun d hd hA hB => by
      rcases fit_look (w := w') true (int_keyed undInt) undRep (zeroR w') hw' F (keyOf_int_mk undInt (WalkArith.wf_i64 (n := n) ⟨by omega, by omega⟩)) with ⟨hrun, _, hat⟩ | ⟨e0, y, _, _, hrun, hR, hat, _⟩
      · have := hat .nil
        rw [← hx.1, hd] at this
        rw [hA this]
        exact hrun
      · have := hat .nil
        rw [← hx.1, hd] at this
        obtain ⟨a, b, hv, hy⟩ := val2 hR
        rw [hB a b (this.trans hy)]
        rw [hv] at hrun
        exact hrun
    obtain ⟨k, rfl⟩ := Int.eq_ofNat_of_zero_le hn0
    have hk : k < 19 := by omega
    have hc : k = 0 ∨ k = 1 ∨ k = 2 ∨ k = 3 ∨ k = 4 ∨ k = 5 ∨ k = 6 ∨ k = 7 ∨ k = 8 ∨ k = 9 ∨ k = 10 ∨ k = 11 ∨ k = 12 ∨ k = 13 ∨ k = 14 ∨ k = 15 ∨ k = 16 ∨ k = 17 ∨ k = 18 := by omega
    rcases hc with rfl | rfl | rfl | rfl | rfl | rfl | rfl | rfl | rfl | rfl | rfl | rfl | rfl | rfl | rfl | rfl | rfl | rfl | rfl
    all_goals
      first
      | exact key .nil (by kernel_rfl) (fun _ => rfl) fun a b h => by cases h
      | exact key (.agg [.lit (.int .i64 3), .lit (.int .i64 2)]) (by kernel_rfl) (fun h => by cases h) fun a b h => by cases h; rfl
      | exact key (.agg [.lit (.int .i64 3), .lit (.int .i64 3)]) (by kernel_rfl) (fun h => by cases h) fun a b h => by cases h; rfl
      | exact key (.agg [.lit (.int .i64 11), .lit (.int .i64 7)]) (by kernel_rfl) (fun h => by cases h) fun a b h => by cases h; rfl
end InfZ
end Go.Proofs.YtjkoafjnmkchdaaDoor

/- Joined. -/
