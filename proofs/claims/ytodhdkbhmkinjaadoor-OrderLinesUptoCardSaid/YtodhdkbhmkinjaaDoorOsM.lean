/- Reading order: Text. Conditions: sizes. -/
import Derived.Test.YtodhdkbhmkinjaaDoorOsL
namespace Go.Proofs.YtodhdkbhmkinjaaDoor
namespace Rdg
open Sh
set_option linter.unusedVariables false
set_option linter.unusedSimpArgs false
set_option maxRecDepth 4000
set_option maxHeartbeats 2000000
attribute [local irreducible] Ld St Nw Nn Lt LdS
/-- The text of words and of lines. -/
def tw : Nat → List Wd → List UInt8
  | _, [] => []
  | k, v :: r => (if 0 < k then [32] else []) ++ v.s.data.toList ++ tw (k + 1) r
def tl : List Ln → List UInt8
  | [] => []
  | m :: r => tw 0 m.words ++ [10] ++ tl r
theorem c_Text {w : World} {s : Slc} {M : List Ln} {ss : List Slc} (hL : LsV w s M ss) (hM : M.length ≤ 1048576) (hMw : ∀ m ∈ M, m.words.length ≤ 1048576) (hsz : (tl M).length ≤ 1099511627776) : C17 s w fun r w1 => r = ⟨(tl M).toArray⟩ ∧ Ext (fun _ => False) w w1 := by
  refine T17 _ _ _ ?_
  unfold S17
  have hcn := hL.count
  refine Nw.of ?_
  have e2 : Ext (fun _ => False) w (w.alloc (.cells #[.pointer none, Slc.v ((⟨none, 0, 0⟩ : Slc))] 67)) := (Ext.refl _ w).alloc _
  refine ⟨fun m st w1 => ∃ (i : Nat) (p : Option Addr) (sl : Slc) (l : List UInt8), st = (i : Int) ∧ i ≤ M.length ∧ m = M.length - i ∧ Bu w w1 w.heap.size p sl l ∧ l ++ tl (M.drop i) = tl M ∧ Ext (fun _ => False) w w1, M.length, ⟨0, none, ⟨none, 0, 0⟩, [], rfl, Nat.zero_le _, rfl, ⟨Nat.le_refl _, .inl rfl, Blk.new w _ _, World.ownsRow_nil _ _ _ _⟩, rfl, e2⟩, ?_⟩
  rintro m st w4 ⟨i, p, sl, l, rfl, hi, rfl, hB, hl, e4⟩
  unfold S17L2
  rw [hcn]
  refine Br.dec (fun q => ?_) fun q => ?_
  · have hil : i < M.length := by omega
    obtain ⟨a, x, ha, hx, hW, hc⟩ := hL.at (List.getElem?_eq_getElem hil)
    have hmw := hMw _ (List.getElem_mem hil)
    rw [List.drop_eq_getElem_cons hil] at hl
    have hnx : i + 1 ≤ M.length := hil
    generalize M[i] = y at *
    rw [ha]
    refine ⟨by omega, by omega, Nn.of ?_⟩
    rw [Int.toNat_natCast]
    refine ldLA (p := (x, y.box)) (fun j c hj => by rw [add_add']; exact e4.cell_same (hc j c hj)) ?_
    refine (Hn.start w4).nw fun w8 H => ?_
    have H : Hn w4 w8 [(w4.heap.size, lcells (⟨none, 0, 0⟩, zB), 40)] := H
    refine stLn (p := (x, y.box)) H 0 rfl fun w9 H => ?_
    simp only [List.set_cons_zero] at H
    refine H.ld 0 rfl (x := x) rfl ?_
    have hxc := hW.count
    have hl2 : l ++ tw 0 (y.words.drop 0) ++ [10] ++ tl (M.drop (i + 1)) = tl M := by
      rw [← hl]
      show _ = l ++ (tw 0 y.words ++ [10] ++ tl (M.drop (i + 1)))
      simp [List.append_assoc]
    refine ⟨fun m st w1 => ∃ (k : Nat) (p : Option Addr) (sl : Slc) (l : List UInt8), st = (k : Int) ∧ k ≤ y.words.length ∧ m = y.words.length - k ∧ Bu w w1 w.heap.size p sl l ∧ l ++ tw k (y.words.drop k) ++ [10] ++ tl (M.drop (i + 1)) = tl M ∧ Ext (fun _ => False) w w1, y.words.length, ⟨0, p, sl, l, rfl, Nat.zero_le _, rfl, hB.keep H.ext, hl2, e4.tr H.ext⟩, ?_⟩
    clear hl2 hB hl
    rintro m st w12 ⟨k, p, sl, l, rfl, hk, rfl, hB, hl, e12⟩
    unfold S17L1
    rw [hxc]
    refine Br.dec (fun q1 => ?_) fun q1 => ?_
    · have hkl : k < y.words.length := by omega
      obtain ⟨a', ha', hc'⟩ := VRow.elem wcells_len (hW.keep e12) (List.getElem?_eq_getElem hkl) (by decide)
      rw [List.drop_eq_getElem_cons hkl] at hl
      generalize y.words[k] = v at *
      rw [ha']
      refine ⟨by omega, by omega, Nn.of ?_⟩
      rw [Int.toNat_natCast]
      refine ldWA (v := v) (fun j c hj => by rw [add_add']; exact hc' j c hj) ?_
      refine (Hn.start w12).nw fun w16 J => ?_
      have J : Hn w12 w16 [(w12.heap.size, wcells ⟨⟨#[]⟩, zB⟩, 44)] := J
      refine stWd (v := v) J 0 rfl fun w17 J => ?_
      simp only [List.set_cons_zero] at J
      have B17 := hB.keep J.ext
      have hb17 := J.get 0 rfl
      have e17 := e12.tr J.ext
      have hlen := congrArg List.length hl
      simp only [List.length_append] at hlen
      have htw : (tw k (v :: y.words.drop (k + 1))).length = (if 0 < k then [(32 : UInt8)] else []).length + v.s.data.toList.length + (tw (k + 1) (y.words.drop (k + 1))).length := by
        show ((if 0 < k then [(32 : UInt8)] else []) ++ v.s.data.toList ++ tw (k + 1) (y.words.drop (k + 1))).length = _
        simp only [List.length_append]
      have hvs : v.s.data.toList.length = v.s.size := Array.length_toList
      have hwn : 44 ≠ 67 ∧ 44 ≠ 5 := by decide
      have next : ∀ (w' : World) (p' : Option Addr) (sl' : Slc), Bu w w' w.heap.size p' sl' (l ++ (if 0 < k then [(32 : UInt8)] else []) ++ v.s.data.toList) → Ext (fun _ => False) w w' → ∃ n', n' < y.words.length - k ∧ ∃ (k_1 : Nat) (p : Option Addr) (sl : Slc) (l : List UInt8), IntKind.i64.wrap ((k : Int) + 1) = (k_1 : Int) ∧ k_1 ≤ y.words.length ∧ n' = y.words.length - k_1 ∧ Bu w w' w.heap.size p sl l ∧ l ++ tw k_1 (y.words.drop k_1) ++ [10] ++ tl (M.drop (i + 1)) = tl M ∧ Ext (fun _ => False) w w' := fun w' p' sl' h1 h2 =>
        ⟨y.words.length - (k + 1), by omega, k + 1, p', sl', _, by rw [i64_id (by omega)]; rfl, by omega, rfl, h1, by
          rw [← hl]
          show _ = l ++ ((if 0 < k then [(32 : UInt8)] else []) ++ v.s.data.toList ++ tw (k + 1) (y.words.drop (k + 1))) ++ [10] ++ tl (M.drop (i + 1))
          simp [List.append_assoc], h2⟩
      refine Br.dec (fun q2 => ?_) fun q2 => ?_
      · have hk0 : 0 < k := by omega
        rw [if_pos hk0] at next htw
        simp only [List.length_singleton] at htw
        have hcb := c_byte (c := 32) B17 (by omega)
        refine C33.mono (show C33 _ 32 _ _ from hcb) ?_
        rintro _ w19 ⟨sl1, B19, W19⟩
        refine Ld.of (x := v.s) (W19.keep _ _ _ hwn.1 hwn.2 hb17) rfl ?_
        refine (c_str (s := v.s) B19 (by rw [List.length_append, List.length_singleton]; omega)).mono ?_
        rintro _ _ w23 ⟨sl2, B23, W23⟩
        exact next w23 _ sl2 B23 (ext_new (ext_new e17 W19.ext fun j hj => hj) W23.ext fun j hj => hj)
      · have hk0 : ¬ 0 < k := by omega
        rw [if_neg hk0] at next htw
        simp only [List.length_nil] at htw
        refine Ld.of (x := v.s) hb17 rfl ?_
        refine (c_str (s := v.s) B17 (by omega)).mono ?_
        rintro _ _ w23 ⟨sl2, B23, W23⟩
        refine next w23 (some ⟨w.heap.size, 0, none⟩) sl2 ?_ (ext_new e17 W23.ext fun j hj => hj)
        rw [List.append_nil]
        exact B23
    · have : k = y.words.length := by omega
      subst this
      rw [List.drop_length] at hl
      have hlen := congrArg List.length hl
      simp only [List.length_append, List.length_singleton] at hlen
      have hcb := c_byte (c := 10) hB (by omega)
      refine C33.mono (show C33 _ 10 _ _ from hcb) ?_
      rintro _ w29 ⟨sl1, B29, W29⟩
      refine ⟨M.length - (i + 1), by omega, i + 1, _, sl1, _, by rw [i64_id (by omega)]; rfl, hnx, rfl, B29, ?_, ext_new e12 W29.ext fun j hj => hj⟩
      rw [← hl]
      show _ = l ++ [] ++ [10] ++ tl (M.drop (i + 1))
      rw [List.append_nil]
  · have : i = M.length := by omega
    subst this
    rw [List.drop_length] at hl
    have hl : l = tl M := by rw [← hl]; show l = l ++ []; rw [List.append_nil]
    subst hl
    refine (c_bstr hB e4.size).mono ?_
    rintro r w5 ⟨rfl, hb⟩
    exact ⟨rfl, ext_new e4 (ext_below hb) fun j hj => hj⟩
end Rdg
end Go.Proofs.YtodhdkbhmkinjaaDoor
