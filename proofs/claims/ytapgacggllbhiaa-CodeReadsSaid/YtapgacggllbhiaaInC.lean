/- Inflate: arrays of 16, what lengths' checks answer, signs of the reference; both sides. Conditions: sizes. -/
import Derived.Test.YtapgacggllbhiaaInA
namespace Go.Proofs.Ytapgacggllbhiaa
namespace Inf
open Sh Bit
set_option linter.unusedVariables false
set_option linter.unusedSimpArgs false
set_option maxRecDepth 4000
set_option maxHeartbeats 2000000
abbrev A16 := Int × Int × Int × Int × Int × Int × Int × Int × Int × Int × Int × Int × Int × Int × Int × Int
def arr16 (f : Nat → Int) : A16 := (f 0, f 1, f 2, f 3, f 4, f 5, f 6, f 7, f 8, f 9, f 10, f 11, f 12, f 13, f 14, f 15)
def lst16 (f : Nat → Int) : List Value := [.int .i64 (f 0), .int .i64 (f 1), .int .i64 (f 2), .int .i64 (f 3), .int .i64 (f 4), .int .i64 (f 5), .int .i64 (f 6), .int .i64 (f 7), .int .i64 (f 8), .int .i64 (f 9), .int .i64 (f 10), .int .i64 (f 11), .int .i64 (f 12), .int .i64 (f 13), .int .i64 (f 14), .int .i64 (f 15)]
theorem lst16_map (f : Nat → Int) : lst16 f = (List.range 16).map fun i => .int .i64 (f i) := rfl
theorem lst16_get (f : Nat → Int) {i : Nat} (hi : i < 16) : (lst16 f)[i]? = some (.int .i64 (f i)) := by
  rw [lst16_map, List.getElem?_map, List.getElem?_range hi]
  rfl
def upd (f : Nat → Int) (i : Nat) (x : Int) : Nat → Int := fun j => if j = i then x else f j
theorem lst16_set (f : Nat → Int) {i : Nat} (hi : i < 16) (x : Int) : (lst16 f).set i (.int .i64 x) = lst16 (upd f i x) := by
  apply List.ext_getElem?
  intro j
  rw [List.getElem?_set]
  have hl : (lst16 f).length = 16 := rfl
  by_cases hj : j < 16
  · rw [lst16_get _ hj, lst16_get _ hj]
    by_cases h : i = j
    · subst h
      rw [if_pos rfl, if_pos (by omega)]
      unfold upd
      rw [if_pos rfl]
    · rw [if_neg h]
      unfold upd
      rw [if_neg (fun e => h e.symm)]
  · rw [if_neg (by omega), List.getElem?_eq_none (by omega), List.getElem?_eq_none (by show 16 ≤ j; omega)]
theorem lst16_len (f : Nat → Int) : (lst16 f).length = 16 := rfl
def cf (lens : List Int) (i n : Nat) : Int := if n = 0 then 0 else (cntT lens n i : Int)
theorem cf_step {lens : List Int} {i n : Nat} (h : lens.getD i 0 = (n : Int)) (hn : 0 < n) : upd (cf lens i) n (cf lens i n + 1) = cf lens (i + 1) := by
  funext j
  unfold upd cf
  rw [cntT_succ, h]
  by_cases hj : j = n
  · subst hj
    rw [if_pos rfl, if_neg (by omega), if_neg (by omega), if_pos rfl]
    omega
  · rw [if_neg hj]
    by_cases h0 : j = 0
    · rw [if_pos h0, if_pos h0]
    · rw [if_neg h0, if_neg h0, if_neg (by omega)]
theorem cf_same {lens : List Int} {i : Nat} (h : lens.getD i 0 = 0) : cf lens (i + 1) = cf lens i := by
  funext j
  unfold cf
  rw [cntT_succ, h]
  by_cases h0 : j = 0
  · rw [if_pos h0, if_pos h0]
  · rw [if_neg h0, if_neg h0, if_neg (by omega)]
theorem cf_bd {lens : List Int} {i : Nat} (hi : i ≤ 288) (n : Nat) : 0 ≤ cf lens i n ∧ cf lens i n ≤ 288 := by
  unfold cf
  have := cntT_le lens n i
  split <;> omega
section
variable {w0 w : World} {L : List (Nat × List Value × TypeId)} {b : Nat} {t : TypeId}
theorem st16o {v0 v1 v2 v3 v4 v5 v6 v7 v8 v9 v10 v11 v12 v13 v14 v15 : Value} {zs pre post : List Value} {K : World → Prop} (H : Hn w0 w L) (o i : Nat) (hi : L[i]? = some (b, pre ++ (zs ++ post), t)) (ho : pre.length = o) (hz : zs.length = 16) (k : ∀ w2, Hn w0 w2 (L.set i (b, pre ++ ([v0, v1, v2, v3, v4, v5, v6, v7, v8, v9, v10, v11, v12, v13, v14, v15] ++ post), t)) → K w2) : St w ⟨b, o, none⟩ v0 fun w => St w ⟨b, o + 1, none⟩ v1 fun w => St w ⟨b, o + 2, none⟩ v2 fun w => St w ⟨b, o + 3, none⟩ v3 fun w => St w ⟨b, o + 4, none⟩ v4 fun w => St w ⟨b, o + 5, none⟩ v5 fun w => St w ⟨b, o + 6, none⟩ v6 fun w => St w ⟨b, o + 7, none⟩ v7 fun w => St w ⟨b, o + 8, none⟩ v8 fun w => St w ⟨b, o + 9, none⟩ v9 fun w => St w ⟨b, o + 10, none⟩ v10 fun w => St w ⟨b, o + 11, none⟩ v11 fun w => St w ⟨b, o + 12, none⟩ v12 fun w => St w ⟨b, o + 13, none⟩ v13 fun w => St w ⟨b, o + 14, none⟩ v14 fun w => St w ⟨b, o + 15, none⟩ v15 fun w => K w :=
  Hn.stL [v0, v1, v2, v3, v4, v5, v6, v7, v8, v9, v10, v11, v12, v13, v14, v15] zs pre post o w H hi ho hz k
theorem st16 {v0 v1 v2 v3 v4 v5 v6 v7 v8 v9 v10 v11 v12 v13 v14 v15 : Value} {zs : List Value} {K : World → Prop} (H : Hn w0 w L) (i : Nat) (hi : L[i]? = some (b, zs, t)) (hz : zs.length = 16) (k : ∀ w2, Hn w0 w2 (L.set i (b, [v0, v1, v2, v3, v4, v5, v6, v7, v8, v9, v10, v11, v12, v13, v14, v15], t)) → K w2) : St w ⟨b, 0, none⟩ v0 fun w => St w ⟨b, 1, none⟩ v1 fun w => St w ⟨b, 2, none⟩ v2 fun w => St w ⟨b, 3, none⟩ v3 fun w => St w ⟨b, 4, none⟩ v4 fun w => St w ⟨b, 5, none⟩ v5 fun w => St w ⟨b, 6, none⟩ v6 fun w => St w ⟨b, 7, none⟩ v7 fun w => St w ⟨b, 8, none⟩ v8 fun w => St w ⟨b, 9, none⟩ v9 fun w => St w ⟨b, 10, none⟩ v10 fun w => St w ⟨b, 11, none⟩ v11 fun w => St w ⟨b, 12, none⟩ v12 fun w => St w ⟨b, 13, none⟩ v13 fun w => St w ⟨b, 14, none⟩ v14 fun w => St w ⟨b, 15, none⟩ v15 fun w => K w :=
  Hn.stL [v0, v1, v2, v3, v4, v5, v6, v7, v8, v9, v10, v11, v12, v13, v14, v15] zs [] [] 0 w H (by simpa using hi) rfl hz fun w2 h => k w2 (by simpa using h)
theorem ld16o {f : Nat → Int} {cs : List Value} {K : Int → Int → Int → Int → Int → Int → Int → Int → Int → Int → Int → Int → Int → Int → Int → Int → Prop} (h : Hn w0 w L) (o i : Nat) (hi : L[i]? = some (b, cs, t)) (g : ∀ j, j < 16 → cs[o + j]? = some (.int .i64 (f j))) (k : K (f 0) (f 1) (f 2) (f 3) (f 4) (f 5) (f 6) (f 7) (f 8) (f 9) (f 10) (f 11) (f 12) (f 13) (f 14) (f 15)) : Ld w ⟨b, o, none⟩ (Value.int .i64) fun x0 => Ld w ⟨b, o + 1, none⟩ (Value.int .i64) fun x1 => Ld w ⟨b, o + 2, none⟩ (Value.int .i64) fun x2 => Ld w ⟨b, o + 3, none⟩ (Value.int .i64) fun x3 => Ld w ⟨b, o + 4, none⟩ (Value.int .i64) fun x4 => Ld w ⟨b, o + 5, none⟩ (Value.int .i64) fun x5 => Ld w ⟨b, o + 6, none⟩ (Value.int .i64) fun x6 => Ld w ⟨b, o + 7, none⟩ (Value.int .i64) fun x7 => Ld w ⟨b, o + 8, none⟩ (Value.int .i64) fun x8 => Ld w ⟨b, o + 9, none⟩ (Value.int .i64) fun x9 => Ld w ⟨b, o + 10, none⟩ (Value.int .i64) fun x10 => Ld w ⟨b, o + 11, none⟩ (Value.int .i64) fun x11 => Ld w ⟨b, o + 12, none⟩ (Value.int .i64) fun x12 => Ld w ⟨b, o + 13, none⟩ (Value.int .i64) fun x13 => Ld w ⟨b, o + 14, none⟩ (Value.int .i64) fun x14 => Ld w ⟨b, o + 15, none⟩ (Value.int .i64) fun x15 => K x0 x1 x2 x3 x4 x5 x6 x7 x8 x9 x10 x11 x12 x13 x14 x15 :=
  h.ld i hi (g 0 (by omega)) (h.ld i hi (g 1 (by omega)) (h.ld i hi (g 2 (by omega)) (h.ld i hi (g 3 (by omega)) (h.ld i hi (g 4 (by omega)) (h.ld i hi (g 5 (by omega)) (h.ld i hi (g 6 (by omega)) (h.ld i hi (g 7 (by omega)) (h.ld i hi (g 8 (by omega)) (h.ld i hi (g 9 (by omega)) (h.ld i hi (g 10 (by omega)) (h.ld i hi (g 11 (by omega)) (h.ld i hi (g 12 (by omega)) (h.ld i hi (g 13 (by omega)) (h.ld i hi (g 14 (by omega)) (h.ld i hi (g 15 (by omega)) (k))))))))))))))))
theorem ld16 {f : Nat → Int} {K : Int → Int → Int → Int → Int → Int → Int → Int → Int → Int → Int → Int → Int → Int → Int → Int → Prop} (h : Hn w0 w L) (i : Nat) (hi : L[i]? = some (b, lst16 f, t)) (k : K (f 0) (f 1) (f 2) (f 3) (f 4) (f 5) (f 6) (f 7) (f 8) (f 9) (f 10) (f 11) (f 12) (f 13) (f 14) (f 15)) : Ld w ⟨b, 0, none⟩ (Value.int .i64) fun x0 => Ld w ⟨b, 1, none⟩ (Value.int .i64) fun x1 => Ld w ⟨b, 2, none⟩ (Value.int .i64) fun x2 => Ld w ⟨b, 3, none⟩ (Value.int .i64) fun x3 => Ld w ⟨b, 4, none⟩ (Value.int .i64) fun x4 => Ld w ⟨b, 5, none⟩ (Value.int .i64) fun x5 => Ld w ⟨b, 6, none⟩ (Value.int .i64) fun x6 => Ld w ⟨b, 7, none⟩ (Value.int .i64) fun x7 => Ld w ⟨b, 8, none⟩ (Value.int .i64) fun x8 => Ld w ⟨b, 9, none⟩ (Value.int .i64) fun x9 => Ld w ⟨b, 10, none⟩ (Value.int .i64) fun x10 => Ld w ⟨b, 11, none⟩ (Value.int .i64) fun x11 => Ld w ⟨b, 12, none⟩ (Value.int .i64) fun x12 => Ld w ⟨b, 13, none⟩ (Value.int .i64) fun x13 => Ld w ⟨b, 14, none⟩ (Value.int .i64) fun x14 => Ld w ⟨b, 15, none⟩ (Value.int .i64) fun x15 => K x0 x1 x2 x3 x4 x5 x6 x7 x8 x9 x10 x11 x12 x13 x14 x15 :=
  ld16o h 0 i hi (fun j hj => by rw [Nat.zero_add]; exact lst16_get f hj) k
end

attribute [local irreducible] Ld St Nw Nn Lt LdS
section
variable {w : World} {s : Slc} {lens : List Int}
theorem c_counted (h : IV w s lens) (hk : Lok lens) : C29 s w fun r w1 => r = arr16 (cn lens) ∧ Ext (fun _ => False) w w1 := by
  refine T29 _ _ _ ?_
  unfold S29
  refine (Hn.start w).nw fun w2 H => H.nw fun w3 H => ?_
  simp only [List.nil_append, List.cons_append] at H
  have hlen := hk.len
  refine ⟨fun n st w4 => ∃ i : Nat, st = (i : Int) ∧ i ≤ lens.length ∧ n = lens.length - i ∧ Hn w w4 [(w.heap.size, lst16 fun _ => 0, 51), (w2.heap.size, lst16 (cf lens i), 51)], lens.length, ⟨0, rfl, by omega, rfl, H⟩, ?_⟩
  rintro n st w4 ⟨i, rfl, hi, rfl, H⟩
  unfold S29L1
  rw [h.1]
  refine Br.dec (fun q => ⟨by omega, by omega, ?_⟩) fun q => ?_
  · have hlt : i < lens.length := by omega
    obtain ⟨a, ha, hc⟩ := (h.keep H.ext).get hlt
    rw [ha, Int.toNat_natCast]
    refine Nn.of (Ld.mk hc ?_)
    have hn := hk.nn i
    obtain ⟨m, hm⟩ := Int.eq_ofNat_of_zero_le hn.1
    have hb := cf_bd (lens := lens) (i := i) (by omega) m
    rw [hm]
    refine Br.dec (fun q2 => ⟨by omega, by omega, ?_⟩) fun q2 => ?_
    · simp only [add_lit, Int.toNat_natCast, Nat.mul_one, Nat.zero_add]
      refine H.ld 1 rfl (lst16_get _ (by omega)) ⟨by omega, by omega, ?_⟩
      refine H.st 1 rfl (by rw [lst16_len]; omega) fun w5 H => ?_
      simp only [List.set_cons_zero, List.set_cons_succ] at H
      rw [i64_id (by omega), lst16_set _ (by omega), cf_step hm (by omega)] at H
      exact ⟨lens.length - (i + 1), by omega, i + 1, by rw [i64_id (by omega)]; rfl, by omega, rfl, H⟩
    · refine ⟨lens.length - (i + 1), by omega, i + 1, by rw [i64_id (by omega)]; rfl, by omega, rfl, ?_⟩
      rw [cf_same (by omega)]
      exact H
  · have : i = lens.length := by omega
    subst this
    simp only [add_lit, Nat.zero_add]
    refine ld16 H 1 rfl (st16 H 0 rfl rfl fun w5 H => ?_)
    simp only [List.set_cons_zero, List.set_cons_succ] at H
    refine ld16 (f := cf lens lens.length) H 0 rfl ⟨rfl, H.ext⟩
theorem c_firsts {f : Nat → Int} (hf : ∀ n, 0 ≤ f n ∧ f n ≤ 288) (w : World) : C28 (arr16 f) w fun r w1 => r = arr16 (fs f) ∧ Ext (fun _ => False) w w1 := by
  refine T28 (arr16 f) _ _ ?_
  unfold S28
  refine (Hn.start w).nw fun w2 H => H.nw fun w3 H => H.nw fun w4 H => ?_
  simp only [List.nil_append, List.cons_append] at H
  refine ⟨fun n st w5 => ∃ k : Nat, st = (k : Int) ∧ 1 ≤ k ∧ k ≤ 15 ∧ n = 15 - k ∧ Hn w w5 [(w.heap.size, lst16 f, 51), (w2.heap.size, lst16 fun _ => 0, 51), (w3.heap.size, lst16 fun j => if j ≤ k then fs f j else 0, 51)], 14, ⟨1, rfl, by omega, by omega, rfl, H⟩, ?_⟩
  rintro n st w5 ⟨k, rfl, hk1, hk, rfl, H⟩
  unfold S28L1
  refine Br.dec (fun q => ⟨by omega, by omega, ?_⟩) fun q => ?_
  · have H := H.drew
    have b1 := fs_bd hf k
    have b2 := hf k
    have hp := two_pow_le (show k ≤ 15 by omega)
    have h15 : (2 : Int) ^ 15 = 32768 := by decide
    simp only [add_lit, Int.toNat_natCast, Nat.mul_one, Nat.zero_add]
    refine H.ld 2 rfl (lst16_get _ (by omega)) ⟨by omega, by omega, ?_⟩
    refine H.ld 0 rfl (lst16_get _ (by omega)) ?_
    rw [i64_id (n := (k : Int) + 1) (by omega)]
    refine ⟨by omega, by omega, ?_⟩
    rw [show ((k : Int) + 1).toNat = k + 1 by omega]
    refine H.st 2 rfl (by rw [lst16_len]; omega) fun w6 H => ?_
    simp only [List.set_cons_zero, List.set_cons_succ] at H
    rw [lst16_set _ (by omega), if_pos (Nat.le_refl k), i64_id (n := fs f k + f k) (by omega), i64_id (by omega)] at H
    refine ⟨15 - (k + 1), by omega, k + 1, rfl, by omega, by omega, rfl, ?_⟩
    have e : upd (fun j => if j ≤ k then fs f j else 0) (k + 1) (2 * (fs f k + f k)) = fun j => if j ≤ k + 1 then fs f j else 0 := by
      funext j
      unfold upd
      by_cases hj : j = k + 1
      · subst hj
        rw [if_pos rfl, if_pos (Nat.le_refl _)]
        obtain ⟨m, rfl⟩ : ∃ m, k = m + 1 := ⟨k - 1, by omega⟩
        rfl
      · rw [if_neg hj]
        dsimp only
        by_cases h2 : j ≤ k
        · rw [if_pos h2, if_pos (by omega)]
        · rw [if_neg h2, if_neg (by omega)]
    rw [e] at H
    exact H
  · have : k = 15 := by omega
    subst this
    simp only [add_lit, Nat.zero_add]
    refine ld16 H 2 rfl (st16 H 1 rfl rfl fun w5 H => ?_)
    simp only [List.set_cons_zero, List.set_cons_succ] at H
    refine ld16 (f := fs f) H 1 rfl ⟨rfl, H.ext⟩
theorem kS_bd {lens : List Int} {i : Nat} (hi : i ≤ 288) : ∀ l, l ≤ 15 → 0 ≤ kS lens i l ∧ kS lens i l ≤ l * 9437184 ∧ 0 ≤ uS lens i l ∧ uS lens i l ≤ l * 288
  | 0, _ => ⟨Int.le_refl _, Int.le_refl _, Int.le_refl _, Int.le_refl _⟩
  | l + 1, hl => by
    obtain ⟨a1, a2, a3, a4⟩ := kS_bd (lens := lens) hi l (by omega)
    have hc := cntT_le lens (l + 1) i
    have hp := two_pow_le (show 15 - (l + 1) ≤ 15 by omega)
    have hp0 := two_pow_pos (15 - (l + 1))
    have h15 : (2 : Int) ^ 15 = 32768 := by decide
    have m1 : (cntT lens (l + 1) i : Int) * 2 ^ (15 - (l + 1)) ≤ 288 * 32768 := Int.mul_le_mul (by omega) (by omega) (by omega) (by omega)
    have m2 : 0 ≤ (cntT lens (l + 1) i : Int) * 2 ^ (15 - (l + 1)) := Int.mul_nonneg (by omega) (by omega)
    have e1 : kS lens i (l + 1) = kS lens i l + (cntT lens (l + 1) i : Int) * 2 ^ (15 - (l + 1)) := rfl
    have e2 : uS lens i (l + 1) = uS lens i l + (cntT lens (l + 1) i : Int) := rfl
    rw [e1, e2]
    omega
theorem nn_all (h : ∀ j, j < lens.length → 0 ≤ lens.getD j 0 ∧ lens.getD j 0 ≤ 15) (hl : lens.length ≤ 288) : Lok lens := ⟨hl, fun i => by
  by_cases hi : i < lens.length
  · exact h i hi
  · rw [List.getD_eq_getElem?_getD, List.getElem?_eq_none (by omega)]
    exact ⟨Int.le_refl _, by decide⟩⟩
theorem c_chk (h : IV w s lens) : C13 s w fun r w1 => r = chk lens ∧ Ext (fun _ => False) w w1 := by
  refine T13 _ _ _ ?_
  unfold S13
  rw [h.1]
  refine Br.dec (fun q => ⟨(chk_many (by omega)).symm, Ext.refl _ _⟩) fun q => ?_
  refine ⟨fun n st w4 => ∃ i : Nat, st = (i : Int) ∧ i ≤ lens.length ∧ n = lens.length - i ∧ w4 = w ∧ ∀ j, j < i → 0 ≤ lens.getD j 0 ∧ lens.getD j 0 ≤ 15, lens.length, ⟨0, rfl, by omega, rfl, rfl, fun j hj => by omega⟩, ?_⟩
  rintro n st w ⟨i, rfl, hi, rfl, rfl, hall⟩
  unfold S13L2
  rw [h.1]
  refine Br.dec (fun q1 => ⟨by omega, by omega, ?_⟩) fun q1 => ?_
  · have hlt : i < lens.length := by omega
    obtain ⟨a, ha, hc⟩ := h.get hlt
    rw [ha, Int.toNat_natCast]
    refine Nn.of (Ld.mk hc (Br.dec (fun q2 => ⟨(chk_arg (by omega) (i := i) (by omega)).symm, Ext.refl _ _⟩) fun q2 => Br.dec (fun q3 => ⟨(chk_arg (by omega) (i := i) (by omega)).symm, Ext.refl _ _⟩) fun q3 => ?_))
    refine ⟨lens.length - (i + 1), by omega, i + 1, by rw [i64_id (by omega)]; rfl, by omega, rfl, rfl, fun j hj => ?_⟩
    by_cases hji : j = i
    · subst hji; omega
    · exact hall j (by omega)
  · have : i = lens.length := by omega
    subst this
    have hk := nn_all hall (by omega)
    refine (c_counted h hk).mono ?_
    rintro r w1 ⟨rfl, he⟩
    refine (Hn.start w1).nw fun w2 H => ?_
    simp only [List.nil_append, List.cons_append] at H
    simp only [add_lit, Nat.zero_add]
    refine st16 H 0 rfl rfl fun w3 H => ?_
    simp only [List.set_cons_zero, List.set_cons_succ] at H
    refine ⟨fun n st w4 => ∃ l : Nat, st = (kS lens lens.length l, uS lens lens.length l, ((l + 1 : Nat) : Int)) ∧ l ≤ 15 ∧ n = 15 - l ∧ Hn w1 w4 [(w1.heap.size, lst16 (cn lens), 51)], 15, ⟨0, rfl, by omega, rfl, H⟩, ?_⟩
    rintro n st w4 ⟨l, rfl, hl, rfl, H⟩
    unfold S13L1
    dsimp only
    obtain ⟨a1, a2, a3, a4⟩ := kS_bd (lens := lens) (i := lens.length) (by omega) l (by omega)
    refine Br.dec (fun q4 => ⟨by omega, by omega, ?_⟩) fun q4 => ?_
    · simp only [add_lit, Int.toNat_natCast, Nat.mul_one, Nat.zero_add]
      refine H.ld 0 rfl (lst16_get _ (by omega)) ?_
      obtain ⟨b1, b2, b3, b4⟩ := kS_bd (lens := lens) (i := lens.length) (by omega) (l + 1) (by omega)
      have hc : cn lens (l + 1) = (cntT lens (l + 1) lens.length : Int) := by unfold cn; rw [if_neg (by omega)]; rfl
      have hcl := cntT_le lens (l + 1) lens.length
      have e1 : kS lens lens.length (l + 1) = kS lens lens.length l + (cntT lens (l + 1) lens.length : Int) * 2 ^ (15 - (l + 1)) := rfl
      have e2 : uS lens lens.length (l + 1) = uS lens lens.length l + (cntT lens (l + 1) lens.length : Int) := rfl
      rw [i64_id (n := 15 - ((l + 1 : Nat) : Int)) (by omega), show min (15 - ((l + 1 : Nat) : Int)).toNat 64 = 15 - (l + 1) by omega, hc]
      generalize (cntT lens (l + 1) lens.length : Int) * 2 ^ (15 - (l + 1)) = z at *
      rw [i64_id (n := z) (by omega), i64_id (by omega), ← e1]
      refine ⟨by omega, Lt.of ⟨by omega, by omega, H.ld 0 rfl (lst16_get _ (by omega)) ?_⟩⟩
      rw [hc, i64_id (n := uS lens lens.length l + _) (by omega), ← e2, i64_id (n := ((l + 1 : Nat) : Int) + 1) (by omega)]
      exact ⟨15 - (l + 1), by omega, l + 1, rfl, by omega, rfl, H⟩
    · have : l = 15 := by omega
      subst this
      rw [kS_kr hk, uS_used hk, chk_rest hk]
      obtain ⟨u1, u2, u3, u4, u5, u6⟩ := used_kr hk lens.length
      have e := he.tr H.ext
      refine Br.eq (fun q5 => ⟨by rw [if_pos (.inl q5)], e⟩) fun q5 => Br.eq (fun q6 => ⟨by rw [if_pos (.inr (.inl (u3 q6).1))], e⟩) fun q6 => Br.eq (fun q7 => ?_) fun q7 => ⟨by rw [if_neg (by omega)], e⟩
      iterate 1 refine H.ld 0 rfl rfl ?_
      have hc : cn lens 1 = (cntT lens 1 lens.length : Int) := rfl
      rw [hc]
      have := u4 q7
      refine Br.eq (fun q8 => ⟨by rw [if_pos (.inr (.inr ⟨q7, this.2 (by omega)⟩))], e⟩) fun q8 => ⟨by rw [if_neg (by omega)], e⟩
end
end Inf
end Go.Proofs.Ytapgacggllbhiaa
