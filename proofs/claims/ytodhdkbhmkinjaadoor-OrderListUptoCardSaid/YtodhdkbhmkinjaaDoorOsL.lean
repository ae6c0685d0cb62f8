/- strings.Builder on this program: writing. Conditions: sizes. -/
import Derived.Test.YtodhdkbhmkinjaaDoorOsK
namespace Go.Proofs.YtodhdkbhmkinjaaDoor
namespace Rdg
open Sh
set_option linter.unusedVariables false
set_option linter.unusedSimpArgs false
set_option maxRecDepth 4000
set_option maxHeartbeats 2000000
/-- A builder in a block of its own that holds l. -/
structure Bu (w0 w : World) (b : Nat) (p : Option Addr) (sl : Slc) (l : List UInt8) : Prop where
  lo : w0.heap.size ≤ b
  ptr : p = none ∨ p = some ⟨b, 0, none⟩
  blk : Blk w b #[.pointer p, Slc.v sl] 67
  row : w.ownsRow w0.heap.size 5 1 (Slc.v sl) l.length (Lib.byteCells l)
/-- What a write changes. -/
structure Wr (w0 w w' : World) : Prop where
  ext : Ext (fun j => w0.heap.size ≤ j) w w'
  keep : ∀ j cs t, t ≠ 67 → t ≠ 5 → Blk w j cs t → Blk w' j cs t
theorem Wr.refl (w0 w : World) : Wr w0 w w := ⟨Ext.refl _ _, fun _ _ _ _ _ h => h⟩
theorem Wr.tr {w0 a b c : World} (h : Wr w0 a b) (k : Wr w0 b c) : Wr w0 a c := ⟨h.ext.tr k.ext, fun j cs t h1 h2 hb => k.keep j cs t h1 h2 (h.keep j cs t h1 h2 hb)⟩
theorem Wr.of {w0 a b : World} (h : Ext (fun _ => False) a b) : Wr w0 a b := ⟨h.mono fun _ _ e => e.elim, fun j cs t _ _ hb => h.blk hb id⟩
theorem Bu.keep {w0 w w' : World} {b : Nat} {p : Option Addr} {sl : Slc} {l : List UInt8} (h : Bu w0 w b p sl l) (he : Ext (fun _ => False) w w') : Bu w0 w' b p sl l :=
  ⟨h.lo, h.ptr, he.blk h.blk id, h.row.kept (row := none) ⟨he.os, he.tape, he.output, he.size, fun k hk _ => he.block k hk id⟩ (by
    cases ho : (Slc.v sl).ownBlock with
    | none => exact .inl rfl
    | some g => exact .inr (by simp))⟩
theorem c_copy {w0 w : World} {b : Nat} {p : Option Addr} {sl : Slc} {l : List UInt8} (h : Bu w0 w b p sl l) : C52 (some ⟨b, 0, none⟩) w fun w' => Bu w0 w' b (some ⟨b, 0, none⟩) sl l ∧ Wr w0 w w' := by
  have c0 : w.cell? ⟨b, 0, none⟩ = some (.pointer p) := h.blk.cell 0
  rcases h.ptr with rfl | rfl
  · refine (copy_fresh b w c0 (by have := h.blk; unfold Blk at this; simp [World.shape?, this]) (h.blk.frozen 0)).mono ?_
    rintro e w' ⟨rfl, rfl⟩
    refine ⟨rfl, ⟨h.lo, .inr rfl, h.blk.set 0 _, h.row.kept (row := some b) ⟨rfl, rfl, rfl, by simp [World.setCell], fun k _ hk => Go.RowKit.Below.heap_setCell _ _ _ _ (fun e => hk (by simp [e]))⟩ (.inr (Lib.ownBlock_ne h.row h.blk (by decide)))⟩, ⟨(Ext.refl _ w).set (.inl h.lo) _, fun j cs t h1 h2 hb => hb.set' fun e => ?_⟩⟩
    subst e
    exact h1 (blk_ty hb h.blk)
  · refine (copy_used b w c0).mono ?_
    rintro e w' ⟨rfl, rfl⟩
    exact ⟨rfl, h, Wr.refl _ _⟩
theorem bc_app (a b : List UInt8) : Lib.byteCells (a ++ b) = Lib.byteCells a ++ Lib.byteCells b := by simp [Lib.byteCells]
/-- The new row is laid into the builder. -/
theorem Bu.put {w0 w1 w2 : World} {b : Nat} {p : Option Addr} {sl : Slc} {l m : List UInt8} {v' : Value} (h : Bu w0 w1 b p sl l) (hown : w2.ownsRow w0.heap.size 5 1 v' m.length (Lib.byteCells m)) (hg : w1.grownBy w2 (Slc.v sl).ownBlock) :
    ∃ sl', v' = Slc.v sl' ∧ CanSt w2 ⟨b, 1, none⟩ ∧ Bu w0 (w2.setCell ⟨b, 1, none⟩ v') b p sl' m ∧ Wr w0 w1 (w2.setCell ⟨b, 1, none⟩ v') := by
  obtain ⟨sl', rfl⟩ : ∃ sl', v' = Slc.v sl' := by
    rcases hown.2 with ⟨rfl, _⟩ | ⟨g, cap, cur, rfl, _⟩
    · exact ⟨⟨none, 0, 0⟩, rfl⟩
    · exact ⟨⟨some ⟨g, 0, none⟩, _, cap⟩, rfl⟩
  have hb2 : Blk w2 b #[.pointer p, Slc.v sl] 67 := by
    have := h.blk
    unfold Blk at this ⊢
    rw [hg.block b h.blk.lt fun e => Lib.ownBlock_ne h.row h.blk (by decide) e.symm]
    exact this
  refine ⟨sl', rfl, hb2.can (Nat.lt_succ_self 1), ⟨h.lo, h.ptr, hb2.set 1 _, hown.kept (row := some b) ⟨rfl, rfl, rfl, by simp [World.setCell], fun k _ hk => Go.RowKit.Below.heap_setCell _ _ _ _ (fun e => hk (by simp [e]))⟩ (.inr (Lib.ownBlock_ne hown hb2 (by decide)))⟩, ?_, fun j cs t h1 h2 hb => ?_⟩
  · have e : Ext (fun j => w0.heap.size ≤ j) w1 w2 := ⟨hg.os, hg.tape, hg.output, hg.size, fun k hk hn => hg.block k hk fun e => hn (h.row.lt k e.symm).1⟩
    exact e.set (.inl h.lo) _
  · have hb3 : Blk w2 j cs t := by
      have := hb
      unfold Blk at this ⊢
      rw [hg.block j hb.lt fun e => Lib.ownBlock_ne h.row hb h2 e.symm]
      exact this
    refine hb3.set' fun e => ?_
    subst e
    exact h1 (blk_ty hb3 hb2)
attribute [local irreducible] Ld Nw Nn Lt LdS
theorem c_str {w0 w : World} {b : Nat} {p : Option Addr} {sl : Slc} {l : List UInt8} {s : ByteArray} (h : Bu w0 w b p sl l) (hs : l.length + s.size ≤ 1099511627776) : C34 (some ⟨b, 0, none⟩) s w fun _ _ w' => ∃ sl', Bu w0 w' b (some ⟨b, 0, none⟩) sl' (l ++ s.data.toList) ∧ Wr w0 w w' := by
  refine T34 _ _ _ _ ?_
  unfold S34
  refine (c_copy h).mono ?_
  rintro w1 ⟨h1, k1⟩
  refine Nn.of (Ld.of (x := sl) h1.blk rfl ?_)
  obtain ⟨i0, hi, hz0, hz1, hz2⟩ := info_parts Tryd.Builder_Extra_169.infoByte
  have hlt := h1.blk.lt
  have hlo := h1.lo
  obtain ⟨v', w2, hrun, hown, hgrow, _⟩ := Lib.run_append_own_string (P := Tryd.prog) w1 w0.heap.size 65 9 65 5 i0 und_bytes und_string hi hz0 hz1 hz2 (Slc.v sl) l.length (Lib.byteCells l) h1.row s (by unfold maxLen; omega) (by omega) (by omega)
  have hown' : w2.ownsRow w0.heap.size 5 1 v' (l ++ s.data.toList).length (Lib.byteCells (l ++ s.data.toList)) := by
    rw [bc_app, List.length_append, Array.length_toList]
    exact hown
  obtain ⟨sl', rfl, hc, hB, hW⟩ := h1.put hown' hgrow
  exact ⟨sl', w2, hrun, Nn.of ⟨hc, sl', hB, k1.tr hW⟩⟩
theorem c_byte {w0 w : World} {b : Nat} {p : Option Addr} {sl : Slc} {l : List UInt8} {c : UInt8} (h : Bu w0 w b p sl l) (hs : l.length + 1 ≤ 1099511627776) : C33 (some ⟨b, 0, none⟩) (c.toNat : Int) w fun _ w' => ∃ sl', Bu w0 w' b (some ⟨b, 0, none⟩) sl' (l ++ [c]) ∧ Wr w0 w w' := by
  refine T33 _ _ _ _ ?_
  unfold S33
  refine (c_copy h).mono ?_
  rintro w1 ⟨h1, k1⟩
  refine Nn.of (Ld.of (x := sl) h1.blk rfl (Nw.of ?_))
  obtain ⟨i0, hi, hz0, hz1, hz2⟩ := info_parts Tryd.Builder_Extra_169.infoByte
  have hlt := h1.blk.lt
  have hlo := h1.lo
  have e1 : Ext (fun _ => False) w1 (w1.alloc (.cells #[.int .u8 (c.toNat : Int)] 5)) := (Ext.refl _ _).alloc _
  have h2 := h1.keep e1
  have z1 := e1.size
  have hnb := Blk.new w1 #[.int .u8 (c.toNat : Int)] 5
  obtain ⟨v', w2, hrun, hown, hgrow, _⟩ := run_append_own (P := Tryd.prog) (w1.alloc (.cells #[.int .u8 (c.toNat : Int)] 5)) w0.heap.size 65 65 5 i0 (.int .u8 0) 1 1 und_bytes hi hz0 hz1 hz2 rfl (by decide) (Slc.v sl) l.length (Lib.byteCells l) h2.row ⟨w1.heap.size, 0, none⟩ 1 1 [.int .u8 (c.toNat : Int)] rfl (fun j u hj => by
    match j, hj with
    | 0, hj => rw [show ((⟨w1.heap.size, 0, none⟩ : Addr).add 0) = ⟨w1.heap.size, 0, none⟩ from rfl, hnb.cell]; exact hj) (fun u hu => by rw [List.mem_singleton.1 hu]; rfl) (by unfold maxLen; omega) (by omega) (by omega)
  have hown' : w2.ownsRow w0.heap.size 5 1 v' (l ++ [c]).length (Lib.byteCells (l ++ [c])) := by
    rw [bc_app, List.length_append]
    exact hown
  obtain ⟨sl', rfl, hc, hB, hW⟩ := h2.put hown' hgrow
  exact ⟨sl', w2, hrun, Nn.of ⟨hc, sl', hB, (k1.tr (Wr.of e1)).tr hW⟩⟩
theorem c_bstr {w0 w : World} {b : Nat} {p : Option Addr} {sl : Slc} {l : List UInt8} (h : Bu w0 w b p sl l) (h0 : w0.heap.size ≤ w.heap.size) : C35 (some ⟨b, 0, none⟩) w fun r w' => r = ⟨l.toArray⟩ ∧ Go.RowKit.Below w0.heap.size w w' := by
  have hI : Lib.IsBuilder 67 5 w0.heap.size b (Lib.byteCells l) w := by
    have hx : Lib.BuilderAt 67 5 w0.heap.size b (.pointer p) (Lib.byteCells l) w := ⟨h.lo, Slc.v sl, h.blk, by rw [Lib.byteCells_length]; exact h.row, Lib.ownBlock_ne h.row h.blk (by decide)⟩
    rcases h.ptr with rfl | rfl
    · exact .inl hx
    · exact .inr hx
  cases l with
  | nil =>
    refine (Tryd.Builder_String_empty w0.heap.size b w hI h0).mono ?_
    rintro e w' ⟨rfl, hb⟩
    exact ⟨_, rfl, rfl, hb⟩
  | cons x r =>
    refine (Tryd.Builder_String w0.heap.size b (x :: r) w hI (by simp)).mono ?_
    rintro e w' ⟨rfl, hb⟩
    exact ⟨_, rfl, rfl, hb⟩
theorem ext_below {w0 w w' : World} (h : Go.RowKit.Below w0.heap.size w w') : Ext (fun j => w0.heap.size ≤ j) w w' := ⟨h.os, h.tape, h.output, h.size, fun k hk hn => h.block k (by omega)⟩
end Rdg
end Go.Proofs.YtodhdkbhmkinjaaDoor
/- Reading order: Text. Conditions: sizes. -/
namespace Go.Proofs.YtodhdkbhmkinjaaDoor
namespace Rdg
open Sh
set_option linter.unusedVariables false
set_option linter.unusedSimpArgs false
set_option maxRecDepth 4000
set_option maxHeartbeats 2000000
attribute [local irreducible] Ld St Nw Nn Lt LdS
/-- The text of words and of lines. -/
def tw : Nat → List Wd → List UInt8
  | _, [] => []
  | k, v :: r => (if 0 < k then [32] else []) ++ v.s.data.toList ++ tw (k + 1) r
def tl : List Ln → List UInt8
  | [] => []
  | m :: r => tw 0 m.words ++ [10] ++ tl r
theorem c_Text {w : World} {s : Slc} {M : List Ln} {ss : List Slc} (hL : LsV w s M ss) (hM : M.length ≤ 1048576) (hMw : ∀ m ∈ M, m.words.length ≤ 1048576) (hsz : (tl M).length ≤ 1099511627776) : C17 s w fun r w1 => r = ⟨(tl M).toArray⟩ ∧ Ext (fun _ => False) w w1 := by
  refine T17 _ _ _ ?_
  unfold S17
  have hcn := hL.count
  refine Nw.of ?_
  have e2 : Ext (fun _ => False) w (w.alloc (.cells #[.pointer none, Slc.v ((⟨none, 0, 0⟩ : Slc))] 67)) := (Ext.refl _ w).alloc _
  refine ⟨fun m st w1 => ∃ (i : Nat) (p : Option Addr) (sl : Slc) (l : List UInt8), st = (i : Int) ∧ i ≤ M.length ∧ m = M.length - i ∧ Bu w w1 w.heap.size p sl l ∧ l ++ tl (M.drop i) = tl M ∧ Ext (fun _ => False) w w1, M.length, ⟨0, none, ⟨none, 0, 0⟩, [], rfl, Nat.zero_le _, rfl, ⟨Nat.le_refl _, .inl rfl, Blk.new w _ _, World.ownsRow_nil _ _ _ _⟩, rfl, e2⟩, ?_⟩
  rintro m st w4 ⟨i, p, sl, l, rfl, hi, rfl, hB, hl, e4⟩
  unfold S17L2
  rw [hcn]
  refine Br.dec (fun q => ?_) fun q => ?_
  · have hil : i < M.length := by omega
    obtain ⟨a, x, ha, hx, hW, hc⟩ := hL.at (List.getElem?_eq_getElem hil)
    have hmw := hMw _ (List.getElem_mem hil)
    rw [List.drop_eq_getElem_cons hil] at hl
    have hnx : i + 1 ≤ M.length := hil
    generalize M[i] = y at *
    rw [ha]
    refine ⟨by omega, by omega, Nn.of ?_⟩
    rw [Int.toNat_natCast]
    refine ldLA (p := (x, y.box)) (fun j c hj => by rw [add_add']; exact e4.cell_same (hc j c hj)) ?_
    refine (Hn.start w4).nw fun w8 H => ?_
    have H : Hn w4 w8 [(w4.heap.size, lcells (⟨none, 0, 0⟩, zB), 40)] := H
    refine stLn (p := (x, y.box)) H 0 rfl fun w9 H => ?_
    simp only [List.set_cons_zero] at H
    refine H.ld 0 rfl (x := x) rfl ?_
    have hxc := hW.count
    have hl2 : l ++ tw 0 (y.words.drop 0) ++ [10] ++ tl (M.drop (i + 1)) = tl M := by
      rw [← hl]
      show _ = l ++ (tw 0 y.words ++ [10] ++ tl (M.drop (i + 1)))
      simp [List.append_assoc]
    refine ⟨fun m st w1 => ∃ (k : Nat) (p : Option Addr) (sl : Slc) (l : List UInt8), st = (k : Int) ∧ k ≤ y.words.length ∧ m = y.words.length - k ∧ Bu w w1 w.heap.size p sl l ∧ l ++ tw k (y.words.drop k) ++ [10] ++ tl (M.drop (i + 1)) = tl M ∧ Ext (fun _ => False) w w1, y.words.length, ⟨0, p, sl, l, rfl, Nat.zero_le _, rfl, hB.keep H.ext, hl2, e4.tr H.ext⟩, ?_⟩
    clear hl2 hB hl
    rintro m st w12 ⟨k, p, sl, l, rfl, hk, rfl, hB, hl, e12⟩
    unfold S17L1
    rw [hxc]
    refine Br.dec (fun q1 => ?_) fun q1 => ?_
    · have hkl : k < y.words.length := by omega
      obtain ⟨a', ha', hc'⟩ := VRow.elem wcells_len (hW.keep e12) (List.getElem?_eq_getElem hkl) (by decide)
      rw [List.drop_eq_getElem_cons hkl] at hl
      generalize y.words[k] = v at *
      rw [ha']
      refine ⟨by omega, by omega, Nn.of ?_⟩
      rw [Int.toNat_natCast]
      refine ldWA (v := v) (fun j c hj => by rw [add_add']; exact hc' j c hj) ?_
      refine (Hn.start w12).nw fun w16 J => ?_
      have J : Hn w12 w16 [(w12.heap.size, wcells ⟨⟨#[]⟩, zB⟩, 44)] := J
      refine stWd (v := v) J 0 rfl fun w17 J => ?_
      simp only [List.set_cons_zero] at J
      have B17 := hB.keep J.ext
      have hb17 := J.get 0 rfl
      have e17 := e12.tr J.ext
      have hlen := congrArg List.length hl
      simp only [List.length_append] at hlen
      have htw : (tw k (v :: y.words.drop (k + 1))).length = (if 0 < k then [(32 : UInt8)] else []).length + v.s.data.toList.length + (tw (k + 1) (y.words.drop (k + 1))).length := by
        show ((if 0 < k then [(32 : UInt8)] else []) ++ v.s.data.toList ++ tw (k + 1) (y.words.drop (k + 1))).length = _
        simp only [List.length_append]
      have hvs : v.s.data.toList.length = v.s.size := Array.length_toList
      have hwn : 44 ≠ 67 ∧ 44 ≠ 5 := by decide
      have next : ∀ (w' : World) (p' : Option Addr) (sl' : Slc), Bu w w' w.heap.size p' sl' (l ++ (if 0 < k then [(32 : UInt8)] else []) ++ v.s.data.toList) → Ext (fun _ => False) w w' → ∃ n', n' < y.words.length - k ∧ ∃ (k_1 : Nat) (p : Option Addr) (sl : Slc) (l : List UInt8), IntKind.i64.wrap ((k : Int) + 1) = (k_1 : Int) ∧ k_1 ≤ y.words.length ∧ n' = y.words.length - k_1 ∧ Bu w w' w.heap.size p sl l ∧ l ++ tw k_1 (y.words.drop k_1) ++ [10] ++ tl (M.drop (i + 1)) = tl M ∧ Ext (fun _ => False) w w' := fun w' p' sl' h1 h2 =>
        ⟨y.words.length - (k + 1), by omega, k + 1, p', sl', _, by rw [i64_id (by omega)]; rfl, by omega, rfl, h1, by
          rw [← hl]
          show _ = l ++ ((if 0 < k then [(32 : UInt8)] else []) ++ v.s.data.toList ++ tw (k + 1) (y.words.drop (k + 1))) ++ [10] ++ tl (M.drop (i + 1))
          simp [List.append_assoc], h2⟩
      refine Br.dec (fun q2 => ?_) fun q2 => ?_
      · have hk0 : 0 < k := by omega
        rw [if_pos hk0] at next htw
        simp only [List.length_singleton] at htw
        have hcb := c_byte (c := 32) B17 (by omega)
        refine C33.mono (show C33 _ 32 _ _ from hcb) ?_
        rintro _ w19 ⟨sl1, B19, W19⟩
        refine Ld.of (x := v.s) (W19.keep _ _ _ hwn.1 hwn.2 hb17) rfl ?_
        refine (c_str (s := v.s) B19 (by rw [List.length_append, List.length_singleton]; omega)).mono ?_
        rintro _ _ w23 ⟨sl2, B23, W23⟩
        exact next w23 _ sl2 B23 (ext_new (ext_new e17 W19.ext fun j hj => hj) W23.ext fun j hj => hj)
      · have hk0 : ¬ 0 < k := by omega
        rw [if_neg hk0] at next htw
        simp only [List.length_nil] at htw
        refine Ld.of (x := v.s) hb17 rfl ?_
        refine (c_str (s := v.s) B17 (by omega)).mono ?_
        rintro _ _ w23 ⟨sl2, B23, W23⟩
        refine next w23 (some ⟨w.heap.size, 0, none⟩) sl2 ?_ (ext_new e17 W23.ext fun j hj => hj)
        rw [List.append_nil]
        exact B23
    · have : k = y.words.length := by omega
      subst this
      rw [List.drop_length] at hl
      have hlen := congrArg List.length hl
      simp only [List.length_append, List.length_singleton] at hlen
      have hcb := c_byte (c := 10) hB (by omega)
      refine C33.mono (show C33 _ 10 _ _ from hcb) ?_
      rintro _ w29 ⟨sl1, B29, W29⟩
      refine ⟨M.length - (i + 1), by omega, i + 1, _, sl1, _, by rw [i64_id (by omega)]; rfl, hnx, rfl, B29, ?_, ext_new e12 W29.ext fun j hj => hj⟩
      rw [← hl]
      show _ = l ++ [] ++ [10] ++ tl (M.drop (i + 1))
      rw [List.append_nil]
  · have : i = M.length := by omega
    subst this
    rw [List.drop_length] at hl
    have hl : l = tl M := by rw [← hl]; show l = l ++ []; rw [List.append_nil]
    subst hl
    refine (c_bstr hB e4.size).mono ?_
    rintro r w5 ⟨rfl, hb⟩
    exact ⟨rfl, ext_new e4 (ext_below hb) fun j hj => hj⟩
end Rdg
end Go.Proofs.YtodhdkbhmkinjaaDoor
