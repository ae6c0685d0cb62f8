/- Inflate: the reference's codes: Check, Bit, place, Sign, Same. Conditions: sizes. -/
import Derived.Test.YtapgacggllbhiaaInC
namespace Go.Proofs.Ytapgacggllbhiaa
namespace Inf
open Sh Bit
set_option linter.unusedVariables false
set_option linter.unusedSimpArgs false
set_option maxRecDepth 4000
set_option maxHeartbeats 2000000
theorem idxT_pre (lens : List Int) (n i : Nat) : ∀ d, ∃ r, idxT lens n (i + d) = idxT lens n i ++ r
  | 0 => ⟨[], by simp⟩
  | d + 1 => by
    obtain ⟨r, h⟩ := idxT_pre lens n i d
    rw [show i + (d + 1) = i + d + 1 by omega, idxT_succ]
    split
    · exact ⟨r ++ [i + d], by rw [h, List.append_assoc]⟩
    · exact ⟨r, h⟩
/-- The sign that a place holds. -/
theorem idxs_at {lens : List Int} {n i : Nat} (h : lens.getD i 0 = (n : Int)) (hi : i < lens.length) : (idxs lens n).getD (cntT lens n i) 0 = i ∧ cntT lens n i < cnt lens n := by
  obtain ⟨r, hr⟩ := idxT_pre lens n (i + 1) (lens.length - (i + 1))
  rw [show i + 1 + (lens.length - (i + 1)) = lens.length by omega, idxT_succ, if_pos h] at hr
  have e : idxs lens n = idxT lens n i ++ [i] ++ r := hr
  constructor
  · rw [e, List.append_assoc, List.getD_eq_getElem?_getD]
    unfold cntT
    rw [List.getElem?_append_right (Nat.le_refl _), Nat.sub_self]
    rfl
  · show (idxT lens n i).length < (idxs lens n).length
    rw [e, List.append_assoc, List.length_append, List.length_append]
    simp
    omega
theorem cntT_mono (lens : List Int) (n : Nat) {i : Nat} (hi : i ≤ lens.length) : cntT lens n i ≤ cnt lens n := by
  obtain ⟨r, hr⟩ := idxT_pre lens n i (lens.length - i)
  rw [show i + (lens.length - i) = lens.length by omega] at hr
  show (idxT lens n i).length ≤ (idxT lens n lens.length).length
  rw [hr, List.length_append]
  omega
attribute [local irreducible] Ld St Nw Nn Lt LdS
section
variable {w : World} {s : Slc} {lens : List Int}
theorem r_bits {n : Nat} (hn : n ≤ 30) (w : World) : C31 (n : Int) w fun r w1 => r = ((2 ^ n : Nat) : Int) ∧ w1 = w := by
  refine T31 _ _ _ ?_
  unfold S31
  exact ⟨by rw [u64_id (by omega)]; omega, sh1u hn, rfl⟩
theorem r_used (h : IV w s lens) (hk : Lok lens) : C32 s w fun r w1 => r = usedT lens lens.length ∧ w1 = w := by
  refine T32 _ _ _ ?_
  unfold S32
  have hlen := hk.len
  have ub : ∀ i, i ≤ 288 → 0 ≤ usedT lens i ∧ usedT lens i ≤ i := fun i => by
    induction i with
    | zero => intro _; exact ⟨Int.le_refl _, Int.le_refl _⟩
    | succ i ih =>
      intro hi
      have := ih (by omega)
      show 0 ≤ (if lens.getD i 0 ≠ 0 then usedT lens i + 1 else usedT lens i) ∧ _
      show _ ∧ (if lens.getD i 0 ≠ 0 then usedT lens i + 1 else usedT lens i) ≤ _
      split <;> omega
  refine ⟨fun n st w4 => ∃ i : Nat, st = (usedT lens i, (i : Int)) ∧ i ≤ lens.length ∧ n = lens.length - i ∧ w4 = w, lens.length, ⟨0, rfl, by omega, rfl, rfl⟩, ?_⟩
  rintro n st w ⟨i, rfl, hi, rfl, rfl⟩
  unfold S32L1
  dsimp only
  rw [h.1]
  refine Br.dec (fun q => ⟨by omega, by omega, ?_⟩) fun q => ⟨by rw [show i = lens.length by omega], rfl⟩
  have hlt : i < lens.length := by omega
  obtain ⟨a, ha, hc⟩ := h.get hlt
  rw [ha, Int.toNat_natCast]
  have hb := ub i (by omega)
  have e : usedT lens (i + 1) = if lens.getD i 0 ≠ 0 then usedT lens i + 1 else usedT lens i := rfl
  refine Nn.of (Ld.mk hc (Br.ne (fun q2 => ?_) fun q2 => ?_))
  · rw [i64_id (n := usedT lens i + 1) (by omega), i64_id (n := (i : Int) + 1) (by omega)]
    exact ⟨lens.length - (i + 1), by omega, i + 1, by rw [e, if_pos q2]; rfl, by omega, rfl, rfl⟩
  · rw [i64_id (n := (i : Int) + 1) (by omega)]
    exact ⟨lens.length - (i + 1), by omega, i + 1, by rw [e, if_neg (fun hh => hh q2)]; rfl, by omega, rfl, rfl⟩
theorem kr_bd {lens : List Int} : ∀ i, 0 ≤ kr lens i ∧ kr lens i ≤ i * 32768
  | 0 => ⟨Int.le_refl _, Int.le_refl _⟩
  | i + 1 => by
    have ih := kr_bd (lens := lens) i
    have hp := two_pow_le (show 15 - (lens.getD i 0).toNat ≤ 15 by omega)
    have hp0 := two_pow_pos (15 - (lens.getD i 0).toNat)
    have h15 : (2 : Int) ^ 15 = 32768 := by decide
    show 0 ≤ (if 0 < lens.getD i 0 then kr lens i + 2 ^ (15 - (lens.getD i 0).toNat) else kr lens i) ∧ (if 0 < lens.getD i 0 then kr lens i + 2 ^ (15 - (lens.getD i 0).toNat) else kr lens i) ≤ _
    split <;> omega
theorem r_chk (h : IV w s lens) : C14 s w fun r w1 => r = chk lens ∧ w1 = w := by
  refine T14 _ _ _ ?_
  unfold S14
  rw [h.1]
  refine Br.dec (fun q => ⟨(chk_many (by omega)).symm, rfl⟩) fun q => ?_
  refine ⟨fun n st w4 => ∃ i : Nat, st = (kr lens i, longT lens i, (i : Int)) ∧ i ≤ lens.length ∧ n = lens.length - i ∧ w4 = w ∧ ∀ j, j < i → 0 ≤ lens.getD j 0 ∧ lens.getD j 0 ≤ 15, lens.length, ⟨0, rfl, by omega, rfl, rfl, fun j hj => by omega⟩, ?_⟩
  rintro n st w ⟨i, rfl, hi, rfl, rfl, hall⟩
  unfold S14L1
  dsimp only
  rw [h.1]
  refine Br.dec (fun q1 => ?_) fun q1 => ?_
  · have hlt : i < lens.length := by omega
    obtain ⟨a, ha, hc⟩ := h.get hlt
    rw [ha, Int.toNat_natCast]
    refine ⟨by omega, by omega, Nn.of (Ld.mk hc (Br.dec (fun q2 => ⟨(chk_arg (by omega) (i := i) (by omega)).symm, rfl⟩) fun q2 => ⟨by omega, by omega, Nn.of (Ld.mk hc (Br.dec (fun q3 => ⟨(chk_arg (by omega) (i := i) (by omega)).symm, rfl⟩) fun q3 => ⟨by omega, by omega, Nn.of (Ld.mk hc ?_)⟩))⟩))⟩
    have hall' : ∀ j, j < i + 1 → 0 ≤ lens.getD j 0 ∧ lens.getD j 0 ≤ 15 := fun j hj => by
      by_cases hji : j = i
      · subst hji; omega
      · exact hall j (by omega)
    have e1 : kr lens (i + 1) = if 0 < lens.getD i 0 then kr lens i + 2 ^ (15 - (lens.getD i 0).toNat) else kr lens i := rfl
    have e2 : longT lens (i + 1) = if lens.getD i 0 > longT lens i then lens.getD i 0 else longT lens i := rfl
    have kb := kr_bd (lens := lens) i
    have kb1 := kr_bd (lens := lens) (i + 1)
    refine Br.dec (fun q4 => ⟨by omega, by omega, Nn.of (Ld.mk hc ?_)⟩) fun q4 => ?_
    · obtain ⟨m, hm⟩ : ∃ m : Nat, lens.getD i 0 = (m : Int) := ⟨(lens.getD i 0).toNat, by omega⟩
      rw [i64_id (n := 15 - lens.getD i 0) (by omega), show 15 - lens.getD i 0 = ((15 - m : Nat) : Int) by omega]
      refine (r_bits (n := 15 - m) (by omega) w).mono ?_
      rintro r w ⟨rfl, rfl⟩
      refine ⟨by omega, by omega, Nn.of (Ld.mk hc ?_)⟩
      rw [if_pos (by omega), show (lens.getD i 0).toNat = m by omega] at e1
      have e3 : ((2 ^ (15 - m) : Nat) : Int) = 2 ^ (15 - m) := by simp
      rw [e3, i64_id (n := kr lens i + 2 ^ (15 - m)) (by omega), i64_id (n := (i : Int) + 1) (by omega)]
      exact ⟨lens.length - (i + 1), by omega, i + 1, by rw [e1, e2]; rfl, by omega, rfl, rfl, hall'⟩
    · rw [if_neg (by omega)] at e1
      have hl := (long_mem (lens := lens) i)
      have hl0 : 0 ≤ longT lens i := by
        rcases hl with hl | ⟨j, hj, hl⟩
        · omega
        · have := hall j hj; omega
      rw [if_neg (by omega)] at e2
      rw [i64_id (n := (i : Int) + 1) (by omega)]
      exact ⟨lens.length - (i + 1), by omega, i + 1, by rw [e1, e2]; rfl, by omega, rfl, rfl, hall'⟩
  · have : i = lens.length := by omega
    subst this
    have hk := nn_all hall (by omega)
    refine (r_bits (n := 15) (by omega) w).mono ?_
    rintro r w ⟨rfl, rfl⟩
    rw [show ((2 ^ 15 : Nat) : Int) = 32768 by decide, chk_rest hk]
    refine Br.eq (fun q5 => ⟨by rw [if_pos (.inl q5)], rfl⟩) fun q5 => Br.eq (fun q6 => ⟨by rw [if_pos (.inr (.inl q6))], rfl⟩) fun q6 => ?_
    refine (r_used h hk).mono ?_
    rintro r w ⟨rfl, rfl⟩
    refine Br.eq (fun q7 => Br.eq (fun q8 => ⟨by rw [if_pos (.inr (.inr ⟨q7, q8⟩))], rfl⟩) fun q8 => ⟨by rw [if_neg (by omega)], rfl⟩) fun q7 => ⟨by rw [if_neg (by omega)], rfl⟩
theorem r_bit {b : ByteArray} {p : Nat} (hs : b.size ≤ 1000000) (hp : p ≤ 8000000) (w : World) : C39 b (p : Int) w fun r w1 => (if 8 * b.size ≤ p then r = -1 else r = bt b 1 p) ∧ Ext (fun _ => False) w w1 := by
  refine T39 _ _ _ _ ?_
  unfold S39
  have hd : IntKind.i64.wrap (Int.tdiv (p : Int) 8) = ((p / 8 : Nat) : Int) := by rw [tdiv_id (by omega), i64_id (by omega)]; rfl
  rw [hd]
  refine Br.dec (fun q => by omega) fun q => Br.dec (fun q2 => ⟨by rw [if_pos (by omega)], Ext.refl _ _⟩) fun q2 => ⟨by omega, by omega, ?_⟩
  have hm : Int.tmod (p : Int) 8 = ((p % 8 : Nat) : Int) := by rw [tmod_id (by omega)]; rfl
  rw [hm]
  refine (r_bits (n := p % 8) (by omega) _).mono ?_
  rintro r w ⟨rfl, rfl⟩
  have hb := byt_bd b (p / 8)
  have hp0 := two_pow_pos (p % 8)
  have e : ((2 ^ (p % 8) : Nat) : Int) = 2 ^ (p % 8) := by simp
  rw [e, bAt_byt, i64_id (n := byt b (p / 8)) (by omega), tdiv_id (by omega)]
  have h1 : 0 ≤ byt b (p / 8) / 2 ^ (p % 8) := Int.ediv_nonneg (by omega) (by omega)
  have h2 : byt b (p / 8) / 2 ^ (p % 8) ≤ byt b (p / 8) := Int.ediv_le_self _ (by omega)
  refine ⟨by omega, ?_, (Ext.refl _ _).drew⟩
  rw [if_neg (by omega), i64_id (by omega), tmod_id h1]
  unfold bt
  rw [if_pos rfl]
theorem r_place (h : IV w s lens) (hlen : lens.length ≤ 288) (n k : Nat) (hk : k ≤ 1000000) : C40 s (n : Int) (k : Int) w fun r w1 => r = (((idxs lens n).getD k 0 : Nat) : Int) ∧ w1 = w := by
  refine T40 _ _ _ _ _ ?_
  unfold S40
  refine ⟨fun m st w4 => ∃ i : Nat, st = (((k - cntT lens n i : Nat) : Int), (i : Int)) ∧ i ≤ lens.length ∧ m = lens.length - i ∧ w4 = w ∧ cntT lens n i ≤ k, lens.length, ⟨0, rfl, by omega, rfl, rfl, Nat.zero_le _⟩, ?_⟩
  rintro m st w ⟨i, rfl, hi, rfl, rfl, hle⟩
  unfold S40L1
  dsimp only
  rw [h.1]
  refine Br.dec (fun q1 => ⟨by omega, by omega, ?_⟩) fun q1 => ?_
  · have hlt : i < lens.length := by omega
    obtain ⟨a, ha, hc⟩ := h.get hlt
    rw [ha, Int.toNat_natCast]
    have hs := cntT_succ lens n i
    refine Nn.of (Ld.mk hc (Br.eq (fun q2 => Br.eq (fun q3 => ?_) fun q3 => ?_) fun q2 => ?_))
    · have : k = cntT lens n i := by omega
      rw [this, (idxs_at q2 hlt).1]
      exact ⟨rfl, rfl⟩
    · rw [if_pos q2] at hs
      rw [i64_id (n := (i : Int) + 1) (by omega), i64_id (by omega)]
      exact ⟨lens.length - (i + 1), by omega, i + 1, by rw [hs]; congr 1; omega, by omega, rfl, rfl, by omega⟩
    · rw [if_neg q2] at hs
      rw [i64_id (n := (i : Int) + 1) (by omega)]
      exact ⟨lens.length - (i + 1), by omega, i + 1, by rw [hs]; rfl, by omega, rfl, rfl, by omega⟩
  · have : i = lens.length := by omega
    subst this
    refine ⟨?_, rfl⟩
    have hle' : (idxs lens n).length ≤ k := hle
    rw [List.getD_eq_getElem?_getD, List.getElem?_eq_none hle']
    rfl
/-- What Sign answers. -/
def SymR (lens : List Int) (b : ByteArray) (p : Nat) (v a e : Int) : Prop := (∃ g q : Nat, sym lens b p = .ok (g, q) ∧ v = (g : Int) ∧ a = (q : Int) ∧ e = 0) ∨ ∃ x : Int, sym lens b p = .error x ∧ e = x ∧ x ≠ 0
theorem r_sym {b : ByteArray} {p : Nat} (h : IV w s lens) (hk : Lok lens) (hs : b.size ≤ 1000000) (hp : p ≤ 8 * b.size) : C22 s b (p : Int) w fun v a e w1 => SymR lens b p v a e ∧ Ext (fun _ => False) w w1 := by
  refine T22 _ _ _ _ _ ?_
  unfold S22
  refine (Hn.start w).nw fun w2 H => ?_
  simp only [List.nil_append] at H
  have hlen := hk.len
  refine ⟨fun n st w4 => ∃ i : Nat, st = (longT lens i, (i : Int)) ∧ i ≤ lens.length ∧ n = lens.length - i ∧ Hn w w4 [(w.heap.size, lst16 (fun n => (cntT lens n i : Int)), 50)], lens.length, ⟨0, rfl, by omega, rfl, H⟩, ?_⟩
  rintro n st w4 ⟨i, rfl, hi, rfl, H⟩
  unfold S22L2
  dsimp only
  rw [h.1]
  refine Br.dec (fun q => ⟨by omega, by omega, ?_⟩) fun q => ?_
  · have hlt : i < lens.length := by omega
    obtain ⟨a, ha, hc⟩ := (h.keep H.ext).get hlt
    rw [ha, Int.toNat_natCast]
    have hn := hk.nn i
    obtain ⟨m, hm⟩ := Int.eq_ofNat_of_zero_le hn.1
    have hcl := cntT_le lens m i
    refine Nn.of (Ld.mk hc ?_)
    rw [hm]
    simp only [add_lit, Int.toNat_natCast, Nat.mul_one, Nat.zero_add]
    refine ⟨by omega, by omega, H.ld 0 rfl (lst16_get _ (by omega)) ⟨by omega, by omega, H.st 0 rfl (by rw [lst16_len]; omega) fun w5 H => ⟨by omega, by omega, Nn.of (Ld.mk (x := lens.getD i 0) ?_ ?_)⟩⟩⟩
    · obtain ⟨a', ha', hc'⟩ := (h.keep H.ext).get hlt
      rw [ha] at ha'
      cases ha'
      rw [← hc', Nat.mul_one]
    · simp only [List.set_cons_zero, List.set_cons_succ] at H
      rw [i64_id (n := (cntT lens m i : Int) + 1) (by omega), lst16_set _ (by omega)] at H
      have e : upd (fun n => (cntT lens n i : Int)) m ((cntT lens m i : Int) + 1) = fun n => (cntT lens n (i + 1) : Int) := by
        funext j
        unfold upd
        dsimp only
        rw [cntT_succ, hm]
        by_cases hj : j = m
        · subst hj; rw [if_pos rfl, if_pos rfl]; rfl
        · rw [if_neg hj, if_neg (by omega)]
      rw [e] at H
      exact ⟨lens.length - (i + 1), by omega, i + 1, by rw [i64_id (by omega)]; rfl, by omega, rfl, H⟩
  · have : i = lens.length := by omega
    subst this
    obtain ⟨u1, u2, u3, u4, u5, u6⟩ := used_kr hk lens.length
    have hL : (longest lens : Int) = longT lens lens.length := by unfold longest; omega
    refine ⟨fun k st w5 => ∃ (n : Nat) (c f : Int) (q : Nat), st = ((q : Int), c, f, (n : Int)) ∧ n + k = longest lens + 1 ∧ 1 ≤ n ∧ q ≤ 8 * b.size ∧ 0 ≤ f ∧ f ≤ c ∧ 2 * c + 2 ≤ 2 ^ n ∧ sgo lens b k n c f q = sym lens b p ∧ Hn w w5 [(w.heap.size, lst16 (fun n => (cnt lens n : Int)), 50)], longest lens, ⟨1, 0, 0, p, rfl, by omega, by omega, hp, Int.le_refl _, Int.le_refl _, by decide, rfl, H⟩, ?_⟩
    rintro k st w5 ⟨n, c, f, q, rfl, hnk, hn1, hq, hf0, hfc, hc2, hsg, H⟩
    unfold S22L1
    dsimp only
    have hp15 := two_pow_le (show n ≤ 16 by omega)
    have h16 : (2 : Int) ^ 16 = 65536 := by decide
    refine Br.dec (fun q1 => ?_) fun q1 => ?_
    · obtain ⟨k, rfl⟩ : ∃ k', k = k' + 1 := ⟨k - 1, by omega⟩
      unfold sgo at hsg
      have hb := bt_bd b 1 q
      refine (r_bit hs (by omega) w5).mono ?_
      rintro r w6 ⟨hr, he⟩
      have H := H.keep he
      by_cases hend : 8 * b.size ≤ q
      · rw [if_pos hend] at hr hsg
        subst hr
        refine Br.t rfl ⟨.inr ⟨4, hsg.symm, rfl, by decide⟩, H.ext⟩
      · rw [if_neg hend] at hr hsg
        subst hr
        refine Br.dec (fun q2 => by omega) fun q2 => ?_
        rw [i64_id (n := 2 * c) (by omega), i64_id (n := 2 * f) (by omega), i64_id (n := 2 * c + bt b 1 q) (by omega), i64_id (n := 2 * c + bt b 1 q - 2 * f) (by omega)]
        simp only [add_lit, Int.toNat_natCast, Nat.mul_one, Nat.zero_add]
        refine Lt.of ⟨by omega, by omega, H.ld 0 rfl (lst16_get _ (by omega)) (Br.dec (fun q3 => Lt.of ?_) fun q3 => ⟨by omega, by omega, H.ld 0 rfl (lst16_get _ (by omega)) ?_⟩)⟩
        · rw [if_pos q3] at hsg
          obtain ⟨z, hz⟩ : ∃ z : Nat, 2 * c + bt b 1 q - 2 * f = (z : Int) := ⟨(2 * c + bt b 1 q - 2 * f).toNat, by omega⟩
          rw [hz] at hsg ⊢
          refine (r_place (h.keep H.ext) hlen n z (by omega)).mono ?_
          rintro r w7 ⟨rfl, rfl⟩
          rw [Int.toNat_natCast] at hsg
          refine ⟨.inl ⟨_, _, hsg.symm, rfl, by rw [i64_id (by omega)]; rfl, rfl⟩, H.ext⟩
        · rw [if_neg q3] at hsg
          have hcn := cntT_le lens n lens.length
          have hcn : cnt lens n ≤ lens.length := hcn
          rw [i64_id (n := 2 * f + (cnt lens n : Int)) (by omega), i64_id (n := (q : Int) + 1) (by omega), i64_id (n := (n : Int) + 1) (by omega)]
          refine ⟨k, by omega, n + 1, _, _, q + 1, rfl, by omega, by omega, by omega, by omega, by omega, ?_, hsg, H⟩
          rw [two_pow_succ]
          omega
    · have : k = 0 := by omega
      subst this
      refine ⟨.inr ⟨13, hsg.symm, rfl, by decide⟩, H.ext⟩
theorem r_same {t : Slc} (h : IV w s lens) (k : IV w t lens) (hl : lens.length ≤ 1000000) : C12 s t w fun r w1 => r = true ∧ Ext (fun _ => False) w w1 := by
  refine T12 _ _ _ _ ?_
  unfold S12
  rw [h.1, k.1]
  refine Br.f (by simp) ⟨fun n st w4 => ∃ i : Nat, st = (i : Int) ∧ i ≤ lens.length ∧ n = lens.length - i ∧ Ext (fun _ => False) w w4, lens.length, ⟨0, rfl, by omega, rfl, Ext.refl _ _⟩, ?_⟩
  rintro n st w4 ⟨i, rfl, hi, rfl, he⟩
  unfold S12L1
  rw [h.1, k.1]
  refine Br.dec (fun q => Br.t (by simp; omega) ⟨by omega, by omega, ?_⟩) fun q => ⟨rfl, he⟩
  have hlt : i < lens.length := by omega
  obtain ⟨a, ha, hc⟩ := (h.keep he.drew).get hlt
  obtain ⟨a2, ha2, hc2⟩ := (k.keep he.drew).get hlt
  rw [ha, ha2, Int.toNat_natCast]
  refine Nn.of (Ld.mk hc ⟨by omega, by omega, Nn.of (Ld.mk hc2 (Br.f (by simp) ?_))⟩)
  exact ⟨lens.length - (i + 1), by omega, i + 1, by rw [i64_id (by omega)]; rfl, by omega, rfl, he.drew⟩
end
end Inf
end Go.Proofs.Ytapgacggllbhiaa
