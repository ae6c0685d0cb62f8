/- Order's laws: the reference's Text; the law Lines. Conditions: sizes. -/
import Derived.Test.YtodhdkbhmkinjaaDoorOtA
import Derived.Test.YtodhdkbhmkinjaaDoorFnOr4
namespace Go.Proofs.YtodhdkbhmkinjaaDoor
namespace Rdg
open Sh
set_option linter.unusedVariables false
set_option linter.unusedSimpArgs false
set_option maxRecDepth 4000
set_option maxHeartbeats 2000000
attribute [local irreducible] Ld St Nw Nn Lt LdS
theorem ba_app (s t : ByteArray) : (s ++ t).data.toList = s.data.toList ++ t.data.toList := by
  rw [ByteArray.data_append, Array.toList_append]
theorem c_RText {w : World} {s : Slc} {M : List Ln} {ss : List Slc} (hL : LsV w s M ss) (hM : M.length ≤ 1048576) (hMw : ∀ m ∈ M, m.words.length ≤ 1048576) (hsz : (tl M).length ≤ 1099511627776) : C18 s w fun r w1 => r = ⟨(tl M).toArray⟩ ∧ Ext (fun _ => False) w w1 := by
  refine T18 _ _ _ ?_
  unfold S18
  have hmax : IntKind.i64.max = 9223372036854775807 := rfl
  have hcn := hL.count
  have hsp : (⟨#[32]⟩ : ByteArray).data.toList = [32] := rfl
  have hnl : (⟨#[10]⟩ : ByteArray).data.toList = [10] := rfl
  refine ⟨fun m st w1 => ∃ i : Nat, st.2 = (i : Int) ∧ i ≤ M.length ∧ m = M.length - i ∧ st.1.data.toList ++ tl (M.drop i) = tl M ∧ Ext (fun _ => False) w w1, M.length, ⟨0, rfl, Nat.zero_le _, rfl, rfl, Ext.refl _ _⟩, ?_⟩
  rintro m ⟨sb, i'⟩ w3 ⟨i, hi', hi, rfl, hl, e3⟩
  simp only at hi' hl
  subst hi'
  unfold S18L2
  dsimp only
  rw [hcn]
  refine Br.dec (fun q => ?_) fun q => ?_
  · have hil : i < M.length := by omega
    obtain ⟨a, x, ha, hx, hW, hc⟩ := hL.at (List.getElem?_eq_getElem hil)
    have hmw := hMw _ (List.getElem_mem hil)
    rw [List.drop_eq_getElem_cons hil] at hl
    have hl2 : sb.data.toList ++ tw 0 (M[i].words.drop 0) ++ [10] ++ tl (M.drop (i + 1)) = tl M := by
      rw [← hl]
      show _ = sb.data.toList ++ (tw 0 M[i].words ++ [10] ++ tl (M.drop (i + 1)))
      simp [List.append_assoc]
    clear hl
    generalize M[i] = y at *
    have hxc := hW.count
    refine ⟨fun m st w1 => ∃ k : Nat, st.2 = (k : Int) ∧ k ≤ y.words.length ∧ m = y.words.length - k ∧ st.1.data.toList ++ tw k (y.words.drop k) ++ [10] ++ tl (M.drop (i + 1)) = tl M ∧ Ext (fun _ => False) w w1, y.words.length, ⟨0, rfl, Nat.zero_le _, rfl, hl2, e3⟩, ?_⟩
    clear hl2
    rintro m ⟨sb, k'⟩ w6 ⟨k, hk', hk, rfl, hl, e6⟩
    simp only at hk' hl
    subst hk'
    unfold S18L1
    dsimp only
    have b1 : (0 : Int) ≤ (i : Int) := by omega
    have b2 : (i : Int) < (s.len : Nat) := by omega
    have hlen := congrArg List.length hl
    simp only [List.length_append, List.length_singleton] at hlen
    have hbs : sb.data.toList.length = sb.size := Array.length_toList
    rw [ha, Int.toNat_natCast]
    refine ⟨b1, b2, Nn.of (Ld.mk (x := x) (e6.cell_same (by have := hc 0 _ rfl; simpa using this)) ?_)⟩
    rw [hxc]
    refine Br.dec (fun q1 => ?_) fun q1 => ?_
    · have hkl : k < y.words.length := by omega
      obtain ⟨a', ha', hc'⟩ := VRow.elem wcells_len (hW.keep e6) (List.getElem?_eq_getElem hkl) (by decide)
      rw [List.drop_eq_getElem_cons hkl] at hl
      have htw : tw k (y.words[k] :: y.words.drop (k + 1)) = (if 0 < k then [(32 : UInt8)] else []) ++ y.words[k].s.data.toList ++ tw (k + 1) (y.words.drop (k + 1)) := rfl
      rw [htw] at hl
      have hlen := congrArg List.length hl
      simp only [List.length_append, List.length_singleton] at hlen
      generalize y.words[k] = v at *
      have hvs : v.s.data.toList.length = v.s.size := Array.length_toList
      have b3 : (0 : Int) ≤ (k : Int) := by omega
      have b4 : (k : Int) < (x.len : Nat) := by omega
      have next : ∀ sb' : ByteArray, sb'.data.toList = sb.data.toList ++ (if 0 < k then [(32 : UInt8)] else []) ++ v.s.data.toList → ∃ n', n' < y.words.length - k ∧ ∃ k_1 : Nat, (sb', IntKind.i64.wrap ((k : Int) + 1)).2 = (k_1 : Int) ∧ k_1 ≤ y.words.length ∧ n' = y.words.length - k_1 ∧ (sb', IntKind.i64.wrap ((k : Int) + 1)).1.data.toList ++ tw k_1 (y.words.drop k_1) ++ [10] ++ tl (M.drop (i + 1)) = tl M ∧ Ext (fun _ => False) w w6 := fun sb' h =>
        ⟨y.words.length - (k + 1), by omega, k + 1, by dsimp only; rw [i64_id (by omega)]; rfl, by omega, rfl, by
          dsimp only
          rw [h, ← hl]
          simp [List.append_assoc], e6⟩
      refine Br.dec (fun q2 => ?_) fun q2 => ?_
      · have hk0 : 0 < k := by omega
        rw [if_pos hk0] at next hlen
        have z1 : (⟨#[32]⟩ : ByteArray).size = 1 := rfl
        have z2 : (sb ++ (⟨#[32]⟩ : ByteArray)).size = sb.size + 1 := by rw [ByteArray.size_append, z1]
        simp only [List.length_singleton] at hlen
        refine ⟨by rw [hmax, z1]; omega, b1, b2, ?_⟩
        refine Nn.of (Ld.mk (x := x) (e6.cell_same (by have := hc 0 _ rfl; simpa using this)) ⟨b3, b4, ?_⟩)
        rw [ha', Int.toNat_natCast]
        refine Nn.of (Ld.mk (x := v.s) (by have := hc' 0 _ rfl; simpa using this) ⟨by rw [hmax, z2]; omega, next _ ?_⟩)
        rw [ba_app, ba_app, hsp]
      · have hk0 : ¬ 0 < k := by omega
        rw [if_neg hk0] at next hlen
        simp only [List.length_nil] at hlen
        refine ⟨b1, b2, ?_⟩
        refine Nn.of (Ld.mk (x := x) (e6.cell_same (by have := hc 0 _ rfl; simpa using this)) ⟨b3, b4, ?_⟩)
        rw [ha', Int.toNat_natCast]
        refine Nn.of (Ld.mk (x := v.s) (by have := hc' 0 _ rfl; simpa using this) ⟨by rw [hmax]; omega, next _ ?_⟩)
        rw [ba_app, List.append_nil]
    · have : k = y.words.length := by omega
      subst this
      rw [List.drop_length] at hl
      have z1 : (⟨#[10]⟩ : ByteArray).size = 1 := rfl
      refine ⟨by rw [hmax, z1]; omega, M.length - (i + 1), by omega, i + 1, by rw [i64_id (by omega)]; rfl, hil, rfl, ?_, e6⟩
      rw [ba_app, hnl, ← hl]
      show _ = sb.data.toList ++ [] ++ [10] ++ tl (M.drop (i + 1))
      rw [List.append_nil]
  · have : i = M.length := by omega
    subst this
    rw [List.drop_length] at hl
    refine ⟨?_, e3⟩
    have hl : sb.data.toList = tl M := by rw [← hl]; show _ = sb.data.toList ++ []; rw [List.append_nil]
    exact ba_ext hl
/-! ### Lines as an argument -/
set_option maxRecDepth 100000 in
theorem word_rd {W : World} {n b : Nat} {cs : List Value} (h : RdB Tryd.prog W n 44 cs b) : ∃ v : Wd, cs = wcells v ∧ v.s.size + 1 ≤ b := by
  have hC := h.up
  have hl := rdC_len (t := 44) (by kernel_rfl) hC
  rw [show Tryd.prog.cellsOf 44 = 5 by kernel_rfl] at hl
  obtain ⟨c0, c1, c2, c3, c4, rfl⟩ : ∃ c0 c1 c2 c3 c4, cs = [c0, c1, c2, c3, c4] := by
    match cs, hl with
    | [c0, c1, c2, c3, c4], _ => exact ⟨c0, c1, c2, c3, c4, rfl⟩
  obtain ⟨x1, rfl, _⟩ := leaf_int (k := 8) (i := 1) (u := 2) (by kernel_rfl) Tryd.underlying2 hC rfl
  obtain ⟨x2, rfl, _⟩ := leaf_int (k := 8) (i := 2) (u := 2) (by kernel_rfl) Tryd.underlying2 hC rfl
  obtain ⟨x3, rfl, _⟩ := leaf_int (k := 8) (i := 3) (u := 2) (by kernel_rfl) Tryd.underlying2 hC rfl
  obtain ⟨x4, rfl, _⟩ := leaf_int (k := 8) (i := 4) (u := 2) (by kernel_rfl) Tryd.underlying2 hC rfl
  obtain ⟨_, m, bs, hb, hf⟩ := rdB_struct (L := [(0, 9), (1, 27)]) (by kernel_rfl) h
  obtain ⟨y, hy, h1⟩ := hf 0 0 9 rfl
  rw [show Tryd.prog.cellsOf 9 = 1 by kernel_rfl] at h1
  obtain ⟨x0, e1, _, h2⟩ := rdB_string Tryd.underlying9 h1
  obtain rfl : c0 = .string x0 := by simpa using e1
  have := sum_get_le hy
  exact ⟨⟨x0, x1, x2, x3, x4⟩, rfl, by show x0.size + 1 ≤ b; omega⟩
theorem sum_le_of : ∀ {α : Type} {f : α → Nat} {L : List α} {bs : List Nat}, bs.length = L.length → (∀ (i : Nat) (q : α), L[i]? = some q → ∃ x, bs[i]? = some x ∧ f q ≤ x) → (L.map f).sum ≤ bs.sum
  | α, f, [], bs, _, _ => Nat.zero_le _
  | α, f, g :: L, [], h, _ => by cases h
  | α, f, g :: L, b :: bs, h, hq => by
    obtain ⟨x, hx, h0⟩ := hq 0 g rfl
    have hx : b = x := by simpa using hx
    have := sum_le_of (f := f) (L := L) (bs := bs) (by simpa using h) fun i q hi => hq (i + 1) q (by simpa using hi)
    simp only [List.map_cons, List.sum_cons]
    omega
theorem words_rd {W : World} {n b : Nat} {cs : List Value} (h : RdB Tryd.prog W n 35 cs b) : ∃ (x : Slc) (ws : List Wd), cs = [Slc.v x] ∧ WsV W x ws ∧ letsW ws + ws.length ≤ b := by
  obtain ⟨s, L, bs, h1, h2, h3, h4, h5, h6⟩ := rdB_elems (Q := fun (v : Wd) cs x => cs = wcells v ∧ v.s.size + 1 ≤ x) Tryd.underlying35 (show Tryd.prog.cellsOf 44 = 5 by kernel_rfl) h fun m cs' x _ h => word_rd h
  refine ⟨s, L, h1, VRow.make wcells_len (by decide) h2 fun i g hi => ?_, ?_⟩
  · obtain ⟨a, cs', x, _, ha, _, hc, rfl, _⟩ := h6 i g hi
    exact ⟨a, ha, hc⟩
  · have := sum_le_of (f := fun v : Wd => v.s.size + 1) h4 fun i g hi => by
      obtain ⟨a, cs', x, hx, _, _, _, _, hs⟩ := h6 i g hi
      exact ⟨x, hx, hs⟩
    have e : ∀ L : List Wd, (L.map fun v : Wd => v.s.size + 1).sum = letsW L + L.length := fun L => by
      induction L with
      | nil => rfl
      | cons v L ih =>
        unfold letsW at ih ⊢
        simp only [List.map_cons, List.sum_cons, List.length_cons]
        omega
    rw [e] at this
    omega
set_option maxRecDepth 100000 in
theorem line_rd {W : World} {n b : Nat} {cs : List Value} (h : RdB Tryd.prog W n 40 cs b) : ∃ p : Slc × Ln, cs = lcells (p.1, p.2.box) ∧ WsV W p.1 p.2.words ∧ letsW p.2.words + p.2.words.length + 1 ≤ b := by
  have hC := h.up
  have hl := rdC_len (t := 40) (by kernel_rfl) hC
  rw [show Tryd.prog.cellsOf 40 = 5 by kernel_rfl] at hl
  obtain ⟨c0, c1, c2, c3, c4, rfl⟩ : ∃ c0 c1 c2 c3 c4, cs = [c0, c1, c2, c3, c4] := by
    match cs, hl with
    | [c0, c1, c2, c3, c4], _ => exact ⟨c0, c1, c2, c3, c4, rfl⟩
  obtain ⟨x1, rfl, _⟩ := leaf_int (k := 8) (i := 1) (u := 2) (by kernel_rfl) Tryd.underlying2 hC rfl
  obtain ⟨x2, rfl, _⟩ := leaf_int (k := 8) (i := 2) (u := 2) (by kernel_rfl) Tryd.underlying2 hC rfl
  obtain ⟨x3, rfl, _⟩ := leaf_int (k := 8) (i := 3) (u := 2) (by kernel_rfl) Tryd.underlying2 hC rfl
  obtain ⟨x4, rfl, _⟩ := leaf_int (k := 8) (i := 4) (u := 2) (by kernel_rfl) Tryd.underlying2 hC rfl
  obtain ⟨_, m, bs, hb, hf⟩ := rdB_struct (L := [(0, 35), (1, 27)]) (by kernel_rfl) h
  obtain ⟨y, hy, h1⟩ := hf 0 0 35 rfl
  rw [show Tryd.prog.cellsOf 35 = 1 by kernel_rfl] at h1
  obtain ⟨x, ws, e1, h2, h3⟩ := words_rd h1
  obtain rfl : c0 = Slc.v x := by simpa using e1
  have := sum_get_le hy
  exact ⟨(x, ⟨ws, (x1, x2, x3, x4)⟩), rfl, h2, by show letsW ws + ws.length + 1 ≤ b; omega⟩
instance : Inhabited Slc := ⟨⟨none, 0, 0⟩⟩
theorem lines_arg {H : Type} {enc : TypeId × Value → H} {W : World} {spare : Nat → Bool} {held : Bool} {v : Value} {d : DataW H} {ps : List MemPlace} {rr : Reach} {b0 : Nat}
    (h0 : Value.okWide Tryd.prog W rr b0 24 v) (h : DataW.Trod enc Tryd.prog W 0 spare held 24 v d ps) (hb : Rows.uptoBulk d ≤ 1048576) : ∃ (s : Slc) (M : List Ln) (ss : List Slc), v = Slc.v s ∧ LsV W s M ss ∧ letsL M ≤ 1048576 ∧ M.length ≤ 1048576 := by
  obtain ⟨n, hn⟩ := rdB_arg_slice (m := 12) (by kernel_rfl) Tryd.underlying24 h0 h
  obtain ⟨s, L, bs, h1, h2, h3, h4, h5, h6⟩ := rdB_elems (Q := fun (p : Slc × Ln) cs x => cs = lcells (p.1, p.2.box) ∧ WsV W p.1 p.2.words ∧ letsW p.2.words + p.2.words.length + 1 ≤ x) Tryd.underlying24 (show Tryd.prog.cellsOf 40 = 5 by kernel_rfl) hn fun m cs' x _ h => line_rd h
  have hz : (L.map (·.1)).zip ((L.map (·.2)).map Ln.box) = L.map fun p => (p.1, p.2.box) := by
    clear h2 h3 h4 h6
    induction L with
    | nil => rfl
    | cons p L ih => simp only [List.map_cons, List.zip_cons_cons, ih]
  refine ⟨s, L.map (·.2), L.map (·.1), by simpa using h1, ⟨by simp, ?_, fun i x q hx hq => ?_⟩, ?_, by rw [List.length_map]; omega⟩
  · rw [hz]
    refine VRow.make lcells_len (by decide) (by rw [List.length_map]; exact h2) fun i g hi => ?_
    rw [List.getElem?_map] at hi
    obtain ⟨p, hp, rfl⟩ := Option.map_eq_some_iff.1 hi
    obtain ⟨a, cs', x, _, ha, _, hc, rfl, _⟩ := h6 i p hp
    exact ⟨a, ha, hc⟩
  · rw [List.getElem?_map] at hx hq
    obtain ⟨p, hp, rfl⟩ := Option.map_eq_some_iff.1 hx
    rw [hp] at hq
    cases hq
    obtain ⟨a, cs', x, _, ha, _, hc, _, hw, _⟩ := h6 i p hp
    exact hw
  · have := sum_le_of (f := fun p : Slc × Ln => letsW p.2.words + p.2.words.length) h4 fun i g hi => by
      obtain ⟨a, cs', x, hx, _, _, _, _, _, hs⟩ := h6 i g hi
      exact ⟨x, hx, by omega⟩
    unfold letsL
    rw [List.map_map]
    exact Nat.le_trans this (by omega)
theorem tw_len : ∀ (k : Nat) (ws : List Wd), (tw k ws).length ≤ letsW ws + ws.length
  | _, [] => Nat.le_refl _
  | k, v :: r => by
    have := tw_len (k + 1) r
    have hv : v.s.data.toList.length = v.s.size := Array.length_toList
    have e : tw k (v :: r) = (if 0 < k then [(32 : UInt8)] else []) ++ v.s.data.toList ++ tw (k + 1) r := rfl
    rw [e]
    simp only [List.length_append]
    have : (if 0 < k then [(32 : UInt8)] else []).length ≤ 1 := by split <;> simp
    unfold letsW at *
    simp only [List.map_cons, List.sum_cons, List.length_cons]
    omega
theorem tl_len : ∀ M : List Ln, (tl M).length ≤ letsL M + M.length
  | [] => Nat.le_refl _
  | m :: r => by
    have := tl_len r
    have := tw_len 0 m.words
    have e : tl (m :: r) = tw 0 m.words ++ [10] ++ tl r := rfl
    rw [e]
    simp only [List.length_append, List.length_singleton]
    unfold letsL at *
    simp only [List.map_cons, List.sum_cons, List.length_cons]
    omega
theorem words_le {M : List Ln} {m : Ln} (h : m ∈ M) : m.words.length ≤ letsL M := by
  obtain ⟨i, hi⟩ := List.mem_iff_getElem?.1 h
  have := sum_get_le (bs := M.map fun x => letsW x.words + x.words.length) (i := i) (x := letsW m.words + m.words.length) (by rw [List.getElem?_map, hi]; rfl)
  unfold letsL
  omega
theorem LsV.keepL {w w' : World} {s : Slc} {M : List Ln} {ss : List Slc} (h : LsV w s M ss) (he : Ext (fun _ => False) w w') : LsV w' s M ss := h.keep he
theorem c_LinesLaw {w : World} {s t : Slc} {M Q : List Ln} {ss tt : List Slc} (hA : LsV w s M ss) (hB : LsV w t Q tt) (hM : letsL M ≤ 1048576) (hMl : M.length ≤ 1048576) : C4 s t w fun r w1 => r = true ∧ Ext (fun _ => False) w w1 := by
  refine T4 _ _ _ _ ?_
  unfold S4
  have ca := hA.count
  refine Br.dec (fun _ => c_livesT (Ext.refl _ w)) fun _ => Br.dec (fun _ => c_livesT (Ext.refl _ w)) fun _ => ?_
  have hw : ∀ m ∈ M, m.words.length ≤ 1048576 := fun m hm => Nat.le_trans (words_le hm) hM
  have htl := tl_len M
  refine ⟨fun m st w1 => ∃ i : Nat, st = (i : Int) ∧ i ≤ M.length ∧ m = M.length - i ∧ Ext (fun _ => False) w w1, M.length, ⟨0, rfl, Nat.zero_le _, rfl, Ext.refl _ _⟩, ?_⟩
  rintro m st w3 ⟨i, rfl, hi, rfl, e3⟩
  unfold S4L1
  rw [ca]
  refine Br.dec (fun q => ?_) fun q => ?_
  · have hil : i < M.length := by omega
    obtain ⟨a, x, ha, hx, hW, hc⟩ := (hA.keep e3).at (List.getElem?_eq_getElem hil)
    rw [ha]
    refine ⟨by omega, by omega, Nn.of (Ld.mk (x := x) (by rw [Int.toNat_natCast]; have := hc 0 _ rfl; simpa using this) ?_)⟩
    refine Br.dec (fun _ => c_livesT e3) fun _ => ⟨M.length - (i + 1), by omega, i + 1, by rw [i64_id (by omega)]; rfl, by omega, rfl, e3⟩
  · refine (c_Text (hA.keep e3) hMl hw (by omega)).mono ?_
    rintro r25 w26 ⟨rfl, e26⟩
    have E26 := e3.tr e26
    refine (c_RText (hA.keep E26) hMl hw (by omega)).mono ?_
    rintro r27 w28 ⟨rfl, e28⟩
    have E28 := E26.tr e28
    refine Br.t (by rw [eqL]; simp) ?_
    refine (c_Same (hA.keep E28) (hB.keep E28) hMl hw).mono ?_
    rintro r29 w30 ⟨h29, e30⟩
    have E30 := E28.tr e30
    refine (c_RSame (hA.keep E30) (hB.keep E30) hMl hw).mono ?_
    rintro r31 w32 ⟨h31, e32⟩
    have E32 := E30.tr e32
    have : r29 = r31 := by
      by_cases h : M = Q
      · rw [h29.2 h, h31.2 h]
      · have a1 : r29 = false := by cases r29 with | false => rfl | true => exact absurd (h29.1 rfl) h
        have a2 : r31 = false := by cases r31 with | false => rfl | true => exact absurd (h31.1 rfl) h
        rw [a1, a2]
    subst this
    refine Br.t (by simp) ?_
    refine (c_Same (hA.keep E32) (hA.keep E32) hMl hw).mono ?_
    rintro r33 w34 ⟨h33, e34⟩
    have h33 := h33.2 rfl
    subst h33
    exact Br.t rfl (c_livesT (E32.tr e34))
end Rdg
end Go.Proofs.YtodhdkbhmkinjaaDoor
