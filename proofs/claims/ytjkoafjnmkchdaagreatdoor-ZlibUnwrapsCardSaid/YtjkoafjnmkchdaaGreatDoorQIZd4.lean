/- Inflate: the reference's codes: Check, Bit, place, Sign, Same. Conditions: sizes. -/
import Derived.Test.YtjkoafjnmkchdaaGreatDoorQIZd3
import Derived.Test.YtjkoafjnmkchdaaGreatDoorQIZd2
namespace Go.Proofs.YtjkoafjnmkchdaaGreatDoor
namespace Inf
open Sh Bit
set_option linter.unusedVariables false
set_option linter.unusedSimpArgs false
set_option maxRecDepth 4000
set_option maxHeartbeats 2000000
theorem idxT_pre (lens : List Int) (n i : Nat) : ∀ d, ∃ r, idxT lens n (i + d) = idxT lens n i ++ r
  | 0 => ⟨[], by simp⟩
  | d + 1 => by
    obtain ⟨r, h⟩ := idxT_pre lens n i d
    rw [show i + (d + 1) = i + d + 1 by omega, idxT_succ]
    split
    · exact ⟨r ++ [i + d], by rw [h, List.append_assoc]⟩
    · exact ⟨r, h⟩
/-- The sign that a place holds. -/
theorem idxs_at {lens : List Int} {n i : Nat} (h : lens.getD i 0 = (n : Int)) (hi : i < lens.length) : (idxs lens n).getD (cntT lens n i) 0 = i ∧ cntT lens n i < cnt lens n := by
  obtain ⟨r, hr⟩ := idxT_pre lens n (i + 1) (lens.length - (i + 1))
  rw [show i + 1 + (lens.length - (i + 1)) = lens.length by omega, idxT_succ, if_pos h] at hr
  have e : idxs lens n = idxT lens n i ++ [i] ++ r := hr
  constructor
  · rw [e, List.append_assoc, List.getD_eq_getElem?_getD]
    unfold cntT
    rw [List.getElem?_append_right (Nat.le_refl _), Nat.sub_self]
    rfl
  · show (idxT lens n i).length < (idxs lens n).length
    rw [e, List.append_assoc, List.length_append, List.length_append]
    simp
    omega
theorem cntT_mono (lens : List Int) (n : Nat) {i : Nat} (hi : i ≤ lens.length) : cntT lens n i ≤ cnt lens n := by
  obtain ⟨r, hr⟩ := idxT_pre lens n i (lens.length - i)
  rw [show i + (lens.length - i) = lens.length by omega] at hr
  show (idxT lens n i).length ≤ (idxT lens n lens.length).length
  rw [hr, List.length_append]
  omega
attribute [local irreducible] Ld St Nw Nn Lt LdS
section
variable {w : World} {s : Slc} {lens : List Int}
theorem r_bits {n : Nat} (hn : n ≤ 30) (w : World) : C80 (n : Int) w fun r w1 => r = ((2 ^ n : Nat) : Int) ∧ w1 = w := by
  refine T80 _ _ _ ?_
  unfold S80
  exact ⟨by rw [u64_id (by omega)]; omega, sh1u hn, rfl⟩
theorem r_used (h : IV w s lens) (hk : Lok lens) : C82 s w fun r w1 => r = usedT lens lens.length ∧ w1 = w := by
  refine T82 _ _ _ ?_
  unfold S82
  have hlen := hk.len
  have ub : ∀ i, i ≤ 288 → 0 ≤ usedT lens i ∧ usedT lens i ≤ i := fun i => by
    induction i with
    | zero => intro _; exact ⟨Int.le_refl _, Int.le_refl _⟩
    | succ i ih =>
      intro hi
      have := ih (by omega)
      show 0 ≤ (if lens.getD i 0 ≠ 0 then usedT lens i + 1 else usedT lens i) ∧ _
      show _ ∧ (if lens.getD i 0 ≠ 0 then usedT lens i + 1 else usedT lens i) ≤ _
      split <;> omega
  refine ⟨fun n st w4 => ∃ i : Nat, st = (usedT lens i, (i : Int)) ∧ i ≤ lens.length ∧ n = lens.length - i ∧ w4 = w, lens.length, ⟨0, rfl, by omega, rfl, rfl⟩, ?_⟩
  rintro n st w ⟨i, rfl, hi, rfl, rfl⟩
  unfold S82L1
  dsimp only
  rw [h.1]
  refine Br.dec (fun q => ⟨by omega, by omega, ?_⟩) fun q => ⟨by rw [show i = lens.length by omega], rfl⟩
  have hlt : i < lens.length := by omega
  obtain ⟨a, ha, hc⟩ := h.get hlt
  rw [ha, Int.toNat_natCast]
  have hb := ub i (by omega)
  have e : usedT lens (i + 1) = if lens.getD i 0 ≠ 0 then usedT lens i + 1 else usedT lens i := rfl
  refine Nn.of (Ld.mk hc (Br.ne (fun q2 => ?_) fun q2 => ?_))
  · rw [i64_id (n := usedT lens i + 1) (by omega), i64_id (n := (i : Int) + 1) (by omega)]
    exact ⟨lens.length - (i + 1), by omega, i + 1, by rw [e, if_pos q2]; rfl, by omega, rfl, rfl⟩
  · rw [i64_id (n := (i : Int) + 1) (by omega)]
    exact ⟨lens.length - (i + 1), by omega, i + 1, by rw [e, if_neg (fun hh => hh q2)]; rfl, by omega, rfl, rfl⟩
theorem kr_bd {lens : List Int} : ∀ i, 0 ≤ kr lens i ∧ kr lens i ≤ i * 32768
  | 0 => ⟨Int.le_refl _, Int.le_refl _⟩
  | i + 1 => by
    have ih := kr_bd (lens := lens) i
    have hp := two_pow_le (show 15 - (lens.getD i 0).toNat ≤ 15 by omega)
    have hp0 := two_pow_pos (15 - (lens.getD i 0).toNat)
    have h15 : (2 : Int) ^ 15 = 32768 := by decide
    show 0 ≤ (if 0 < lens.getD i 0 then kr lens i + 2 ^ (15 - (lens.getD i 0).toNat) else kr lens i) ∧ (if 0 < lens.getD i 0 then kr lens i + 2 ^ (15 - (lens.getD i 0).toNat) else kr lens i) ≤ _
    split <;> omega
theorem r_chk (h : IV w s lens) : C50 s w fun r w1 => r = chk lens ∧ w1 = w := by
  refine T50 _ _ _ ?_
  unfold S50
  rw [h.1]
  refine Br.dec (fun q => ⟨(chk_many (by omega)).symm, rfl⟩) fun q => ?_
  refine ⟨fun n st w4 => ∃ i : Nat, st = (kr lens i, longT lens i, (i : Int)) ∧ i ≤ lens.length ∧ n = lens.length - i ∧ w4 = w ∧ ∀ j, j < i → 0 ≤ lens.getD j 0 ∧ lens.getD j 0 ≤ 15, lens.length, ⟨0, rfl, by omega, rfl, rfl, fun j hj => by omega⟩, ?_⟩
  rintro n st w ⟨i, rfl, hi, rfl, rfl, hall⟩
  unfold S50L1
  dsimp only
  rw [h.1]
  refine Br.dec (fun q1 => ?_) fun q1 => ?_
  · have hlt : i < lens.length := by omega
    obtain ⟨a, ha, hc⟩ := h.get hlt
    rw [ha, Int.toNat_natCast]
    refine ⟨by omega, by omega, Nn.of (Ld.mk hc (Br.dec (fun q2 => ⟨(chk_arg (by omega) (i := i) (by omega)).symm, rfl⟩) fun q2 => ⟨by omega, by omega, Nn.of (Ld.mk hc (Br.dec (fun q3 => ⟨(chk_arg (by omega) (i := i) (by omega)).symm, rfl⟩) fun q3 => ⟨by omega, by omega, Nn.of (Ld.mk hc ?_)⟩))⟩))⟩
    have hall' : ∀ j, j < i + 1 → 0 ≤ lens.getD j 0 ∧ lens.getD j 0 ≤ 15 := fun j hj => by
      by_cases hji : j = i
      · subst hji; omega
      · exact hall j (by omega)
    have e1 : kr lens (i + 1) = if 0 < lens.getD i 0 then kr lens i + 2 ^ (15 - (lens.getD i 0).toNat) else kr lens i := rfl
    have e2 : longT lens (i + 1) = if lens.getD i 0 > longT lens i then lens.getD i 0 else longT lens i := rfl
    have kb := kr_bd (lens := lens) i
    have kb1 := kr_bd (lens := lens) (i + 1)
    refine Br.dec (fun q4 => ⟨by omega, by omega, Nn.of (Ld.mk hc ?_)⟩) fun q4 => ?_
    · obtain ⟨m, hm⟩ : ∃ m : Nat, lens.getD i 0 = (m : Int) := ⟨(lens.getD i 0).toNat, by omega⟩
      rw [i64_id (n := 15 - lens.getD i 0) (by omega), show 15 - lens.getD i 0 = ((15 - m : Nat) : Int) by omega]
      refine (r_bits (n := 15 - m) (by omega) w).mono ?_
      rintro r w ⟨rfl, rfl⟩
      refine ⟨by omega, by omega, Nn.of (Ld.mk hc ?_)⟩
      rw [if_pos (by omega), show (lens.getD i 0).toNat = m by omega] at e1
      have e3 : ((2 ^ (15 - m) : Nat) : Int) = 2 ^ (15 - m) := by simp
      rw [e3, i64_id (n := kr lens i + 2 ^ (15 - m)) (by omega), i64_id (n := (i : Int) + 1) (by omega)]
      exact ⟨lens.length - (i + 1), by omega, i + 1, by rw [e1, e2]; rfl, by omega, rfl, rfl, hall'⟩
    · rw [if_neg (by omega)] at e1
      have hl := (long_mem (lens := lens) i)
      have hl0 : 0 ≤ longT lens i := by
        rcases hl with hl | ⟨j, hj, hl⟩
        · omega
        · have := hall j hj; omega
      rw [if_neg (by omega)] at e2
      rw [i64_id (n := (i : Int) + 1) (by omega)]
      exact ⟨lens.length - (i + 1), by omega, i + 1, by rw [e1, e2]; rfl, by omega, rfl, rfl, hall'⟩
  · have : i = lens.length := by omega
    subst this
    have hk := nn_all hall (by omega)
    refine (r_bits (n := 15) (by omega) w).mono ?_
    rintro r w ⟨rfl, rfl⟩
    rw [show ((2 ^ 15 : Nat) : Int) = 32768 by decide, chk_rest hk]
    refine Br.eq (fun q5 => ⟨by rw [if_pos (.inl q5)], rfl⟩) fun q5 => Br.eq (fun q6 => ⟨by rw [if_pos (.inr (.inl q6))], rfl⟩) fun q6 => ?_
    refine (r_used h hk).mono ?_
    rintro r w ⟨rfl, rfl⟩
    refine Br.eq (fun q7 => Br.eq (fun q8 => ⟨by rw [if_pos (.inr (.inr ⟨q7, q8⟩))], rfl⟩) fun q8 => ⟨by rw [if_neg (by omega)], rfl⟩) fun q7 => ⟨by rw [if_neg (by omega)], rfl⟩
theorem r_bit {b : ByteArray} {p : Nat} (hs : b.size ≤ 1000000) (hp : p ≤ 8000000) (w : World) : C46 b (p : Int) w fun r w1 => (if 8 * b.size ≤ p then r = -1 else r = bt b 1 p) ∧ Ext (fun _ => False) w w1 := by
  refine T46 _ _ _ _ ?_
  unfold S46
  have hd : IntKind.i64.wrap (Int.tdiv (p : Int) 8) = ((p / 8 : Nat) : Int) := by rw [tdiv_id (by omega), i64_id (by omega)]; rfl
  rw [hd]
  refine Br.dec (fun q => by omega) fun q => Br.dec (fun q2 => ⟨by rw [if_pos (by omega)], Ext.refl _ _⟩) fun q2 => ⟨by omega, by omega, ?_⟩
  have hm : Int.tmod (p : Int) 8 = ((p % 8 : Nat) : Int) := by rw [tmod_id (by omega)]; rfl
  rw [hm]
  refine (r_bits (n := p % 8) (by omega) _).mono ?_
  rintro r w ⟨rfl, rfl⟩
  have hb := byt_bd b (p / 8)
  have hp0 := two_pow_pos (p % 8)
  have e : ((2 ^ (p % 8) : Nat) : Int) = 2 ^ (p % 8) := by simp
  rw [e, bAt_byt, i64_id (n := byt b (p / 8)) (by omega), tdiv_id (by omega)]
  have h1 : 0 ≤ byt b (p / 8) / 2 ^ (p % 8) := Int.ediv_nonneg (by omega) (by omega)
  have h2 : byt b (p / 8) / 2 ^ (p % 8) ≤ byt b (p / 8) := Int.ediv_le_self _ (by omega)
  refine ⟨by omega, ?_, (Ext.refl _ _).drew⟩
  rw [if_neg (by omega), i64_id (by omega), tmod_id h1]
  unfold bt
  rw [if_pos rfl]
theorem r_place (h : IV w s lens) (hlen : lens.length ≤ 288) (n k : Nat) (hk : k ≤ 1000000) : C103 s (n : Int) (k : Int) w fun r w1 => r = (((idxs lens n).getD k 0 : Nat) : Int) ∧ w1 = w := by
  refine T103 _ _ _ _ _ ?_
  unfold S103
  refine ⟨fun m st w4 => ∃ i : Nat, st = (((k - cntT lens n i : Nat) : Int), (i : Int)) ∧ i ≤ lens.length ∧ m = lens.length - i ∧ w4 = w ∧ cntT lens n i ≤ k, lens.length, ⟨0, rfl, by omega, rfl, rfl, Nat.zero_le _⟩, ?_⟩
  rintro m st w ⟨i, rfl, hi, rfl, rfl, hle⟩
  unfold S103L1
  dsimp only
  rw [h.1]
  refine Br.dec (fun q1 => ⟨by omega, by omega, ?_⟩) fun q1 => ?_
  · have hlt : i < lens.length := by omega
    obtain ⟨a, ha, hc⟩ := h.get hlt
    rw [ha, Int.toNat_natCast]
    have hs := cntT_succ lens n i
    refine Nn.of (Ld.mk hc (Br.eq (fun q2 => Br.eq (fun q3 => ?_) fun q3 => ?_) fun q2 => ?_))
    · have : k = cntT lens n i := by omega
      rw [this, (idxs_at q2 hlt).1]
      exact ⟨rfl, rfl⟩
    · rw [if_pos q2] at hs
      rw [i64_id (n := (i : Int) + 1) (by omega), i64_id (by omega)]
      exact ⟨lens.length - (i + 1), by omega, i + 1, by rw [hs]; congr 1; omega, by omega, rfl, rfl, by omega⟩
    · rw [if_neg q2] at hs
      rw [i64_id (n := (i : Int) + 1) (by omega)]
      exact ⟨lens.length - (i + 1), by omega, i + 1, by rw [hs]; rfl, by omega, rfl, rfl, by omega⟩
  · have : i = lens.length := by omega
    subst this
    refine ⟨?_, rfl⟩
    have hle' : (idxs lens n).length ≤ k := hle
    rw [List.getD_eq_getElem?_getD, List.getElem?_eq_none hle']
    rfl
/-- What Sign answers. -/
def SymR (lens : List Int) (b : ByteArray) (p : Nat) (v a e : Int) : Prop := (∃ g q : Nat, sym lens b p = .ok (g, q) ∧ v = (g : Int) ∧ a = (q : Int) ∧ e = 0) ∨ ∃ x : Int, sym lens b p = .error x ∧ e = x ∧ x ≠ 0
theorem r_sym {b : ByteArray} {p : Nat} (h : IV w s lens) (hk : Lok lens) (hs : b.size ≤ 1000000) (hp : p ≤ 8 * b.size) : C83 s b (p : Int) w fun v a e w1 => SymR lens b p v a e ∧ Ext (fun _ => False) w w1 := by
  refine T83 _ _ _ _ _ ?_
  unfold S83
  refine (Hn.start w).nw fun w2 H => ?_
  simp only [List.nil_append] at H
  have hlen := hk.len
  refine ⟨fun n st w4 => ∃ i : Nat, st = (longT lens i, (i : Int)) ∧ i ≤ lens.length ∧ n = lens.length - i ∧ Hn w w4 [(w.heap.size, lst16 (fun n => (cntT lens n i : Int)), 135)], lens.length, ⟨0, rfl, by omega, rfl, H⟩, ?_⟩
  rintro n st w4 ⟨i, rfl, hi, rfl, H⟩
  unfold S83L2
  dsimp only
  rw [h.1]
  refine Br.dec (fun q => ⟨by omega, by omega, ?_⟩) fun q => ?_
  · have hlt : i < lens.length := by omega
    obtain ⟨a, ha, hc⟩ := (h.keep H.ext).get hlt
    rw [ha, Int.toNat_natCast]
    have hn := hk.nn i
    obtain ⟨m, hm⟩ := Int.eq_ofNat_of_zero_le hn.1
    have hcl := cntT_le lens m i
    refine Nn.of (Ld.mk hc ?_)
    rw [hm]
    simp only [add_lit, Int.toNat_natCast, Nat.mul_one, Nat.zero_add]
    refine ⟨by omega, by omega, H.ld 0 rfl (lst16_get _ (by omega)) ⟨by omega, by omega, H.st 0 rfl (by rw [lst16_len]; omega) fun w5 H => ⟨by omega, by omega, Nn.of (Ld.mk (x := lens.getD i 0) ?_ ?_)⟩⟩⟩
    · obtain ⟨a', ha', hc'⟩ := (h.keep H.ext).get hlt
      rw [ha] at ha'
      cases ha'
      rw [← hc', Nat.mul_one]
    · simp only [List.set_cons_zero, List.set_cons_succ] at H
      rw [i64_id (n := (cntT lens m i : Int) + 1) (by omega), lst16_set _ (by omega)] at H
      have e : upd (fun n => (cntT lens n i : Int)) m ((cntT lens m i : Int) + 1) = fun n => (cntT lens n (i + 1) : Int) := by
        funext j
        unfold upd
        dsimp only
        rw [cntT_succ, hm]
        by_cases hj : j = m
        · subst hj; rw [if_pos rfl, if_pos rfl]; rfl
        · rw [if_neg hj, if_neg (by omega)]
      rw [e] at H
      exact ⟨lens.length - (i + 1), by omega, i + 1, by rw [i64_id (by omega)]; rfl, by omega, rfl, H⟩
  · have : i = lens.length := by omega
    subst this
    obtain ⟨u1, u2, u3, u4, u5, u6⟩ := used_kr hk lens.length
    have hL : (longest lens : Int) = longT lens lens.length := by unfold longest; omega
    refine ⟨fun k st w5 => ∃ (n : Nat) (c f : Int) (q : Nat), st = ((q : Int), c, f, (n : Int)) ∧ n + k = longest lens + 1 ∧ 1 ≤ n ∧ q ≤ 8 * b.size ∧ 0 ≤ f ∧ f ≤ c ∧ 2 * c + 2 ≤ 2 ^ n ∧ sgo lens b k n c f q = sym lens b p ∧ Hn w w5 [(w.heap.size, lst16 (fun n => (cnt lens n : Int)), 135)], longest lens, ⟨1, 0, 0, p, rfl, by omega, by omega, hp, Int.le_refl _, Int.le_refl _, by decide, rfl, H⟩, ?_⟩
    rintro k st w5 ⟨n, c, f, q, rfl, hnk, hn1, hq, hf0, hfc, hc2, hsg, H⟩
    unfold S83L1
    dsimp only
    have hp15 := two_pow_le (show n ≤ 16 by omega)
    have h16 : (2 : Int) ^ 16 = 65536 := by decide
    refine Br.dec (fun q1 => ?_) fun q1 => ?_
    · obtain ⟨k, rfl⟩ : ∃ k', k = k' + 1 := ⟨k - 1, by omega⟩
      unfold sgo at hsg
      have hb := bt_bd b 1 q
      refine (r_bit hs (by omega) w5).mono ?_
      rintro r w6 ⟨hr, he⟩
      have H := H.keep he
      by_cases hend : 8 * b.size ≤ q
      · rw [if_pos hend] at hr hsg
        subst hr
        refine Br.t rfl ⟨.inr ⟨4, hsg.symm, rfl, by decide⟩, H.ext⟩
      · rw [if_neg hend] at hr hsg
        subst hr
        refine Br.dec (fun q2 => by omega) fun q2 => ?_
        rw [i64_id (n := 2 * c) (by omega), i64_id (n := 2 * f) (by omega), i64_id (n := 2 * c + bt b 1 q) (by omega), i64_id (n := 2 * c + bt b 1 q - 2 * f) (by omega)]
        simp only [add_lit, Int.toNat_natCast, Nat.mul_one, Nat.zero_add]
        refine Lt.of ⟨by omega, by omega, H.ld 0 rfl (lst16_get _ (by omega)) (Br.dec (fun q3 => Lt.of ?_) fun q3 => ⟨by omega, by omega, H.ld 0 rfl (lst16_get _ (by omega)) ?_⟩)⟩
        · rw [if_pos q3] at hsg
          obtain ⟨z, hz⟩ : ∃ z : Nat, 2 * c + bt b 1 q - 2 * f = (z : Int) := ⟨(2 * c + bt b 1 q - 2 * f).toNat, by omega⟩
          rw [hz] at hsg ⊢
          refine (r_place (h.keep H.ext) hlen n z (by omega)).mono ?_
          rintro r w7 ⟨rfl, rfl⟩
          rw [Int.toNat_natCast] at hsg
          refine ⟨.inl ⟨_, _, hsg.symm, rfl, by rw [i64_id (by omega)]; rfl, rfl⟩, H.ext⟩
        · rw [if_neg q3] at hsg
          have hcn := cntT_le lens n lens.length
          have hcn : cnt lens n ≤ lens.length := hcn
          rw [i64_id (n := 2 * f + (cnt lens n : Int)) (by omega), i64_id (n := (q : Int) + 1) (by omega), i64_id (n := (n : Int) + 1) (by omega)]
          refine ⟨k, by omega, n + 1, _, _, q + 1, rfl, by omega, by omega, by omega, by omega, by omega, ?_, hsg, H⟩
          rw [two_pow_succ]
          omega
    · have : k = 0 := by omega
      subst this
      refine ⟨.inr ⟨13, hsg.symm, rfl, by decide⟩, H.ext⟩
end
end Inf
end Go.Proofs.YtjkoafjnmkchdaaGreatDoor

/- What the readers of package bit and of its reference do, call by call. Conditions: the reader is not nil, its place lies in its string, the string has at most a million bytes. -/
namespace Go.Proofs.YtjkoafjnmkchdaaGreatDoor
namespace Bit
open Sh
set_option linter.unusedVariables false

/-- A reader of package bit: bit p of s comes next, the order is 'way'. -/
def RdB (w : World) (b : Nat) (s : ByteArray) (p : Nat) (way : Int) : Prop :=
  Blk w b #[.int .i64 way, .int .i64 ((p % 8 : Nat) : Int), .string s, .int .i64 ((p / 8 : Nat) : Int)] 72
abbrev at0 (b : Nat) : Option Addr := some ⟨b, 0, none⟩

section
variable {w : World} {b : Nat} {s : ByteArray} {p : Nat} {way : Int}

theorem c_place (h : RdB w b s p way) (w' : Int) : C121 (at0 b) w' w fun x w1 => x = (if w' = 1 then ((p % 8 : Nat) : Int) else 7 - ((p % 8 : Nat) : Int)) ∧ w1 = w := by
  refine T121 _ _ _ _ ?_
  unfold S121
  by_cases hw : w' = 1
  · simp only [hw, beq_self_eq_true, Br_true]
    exact Nn.of (Ld.of h rfl ⟨rfl, trivial⟩)
  · simp only [hw, if_false, beq_eq_false_iff_ne.2 hw, Br_false]
    exact Nn.of (Ld.of h rfl ⟨i64_id (by omega), trivial⟩)

theorem c_other (h : RdB w b s p way) (w' : Int) : C108 (at0 b) w' w fun x w1 => x = (way != 0 && way != w') ∧ w1 = w := by
  refine T108 _ _ _ _ ?_
  unfold S108
  refine Nn.of (Ld.of h rfl (Br_of (fun e => ?_) fun e => ?_))
  · exact Nn.of (Ld.of h rfl ⟨by simp [e], rfl⟩)
  · exact ⟨by simp [e], rfl⟩

theorem c_left (h : RdB w b s p way) (hp : p ≤ 8 * s.size) (hs : s.size ≤ 1000000) : C115 (at0 b) w fun x w1 => x = ((8 * s.size - p : Nat) : Int) ∧ w1 = w.drew := by
  refine T115 _ _ _ ?_
  unfold S115
  refine Nn.of (Ld.of h.drew rfl (Nn.of (Ld.of h.drew rfl (Nn.of (Ld.of h.drew rfl ⟨?_, rfl⟩)))))
  simp (disch := omega) only [i64_id]
  omega
theorem c_at (h : RdB w b s p way) (hp : p ≤ 8 * s.size) (hs : s.size ≤ 1000000) : C30 (at0 b) w fun x w1 => x = (((p + 7) / 8 : Nat) : Int) ∧ w1 = w := by
  refine T30 _ _ _ ?_
  unfold S30
  refine Nn.of (Ld.of h rfl (Br_of (fun e => ?_) fun e => ?_))
  · have e : (0 : Int) < ((p % 8 : Nat) : Int) := by simpa using e
    refine Nn.of (Ld.of h rfl ⟨?_, rfl⟩)
    rw [i64_id (by omega)]
    omega
  · have e : ¬ (0 : Int) < ((p % 8 : Nat) : Int) := by simpa using e
    refine Nn.of (Ld.of h rfl ⟨?_, rfl⟩)
    omega

theorem bt_of (s : ByteArray) (w' : Int) (p : Nat) : iand .i64 (Int.fdiv (IntKind.i64.wrap (bAt s ((p / 8 : Nat) : Int))) (2 ^ min (if w' = 1 then ((p % 8 : Nat) : Int) else 7 - ((p % 8 : Nat) : Int)).toNat 64)) 1 = bt s w' p := by
  have hb := byt_bd s (p / 8)
  rw [bAt_byt, i64_id (by omega), fdiv_pow]
  have hd := @ediv_pow_bd (byt s (p / 8)) (min (if w' = 1 then ((p % 8 : Nat) : Int) else 7 - ((p % 8 : Nat) : Int)).toNat 64) hb.1
  rw [iand_one hd.1 (by omega)]
  unfold bt
  split
  · rw [show min ((p % 8 : Nat) : Int).toNat 64 = p % 8 by omega]
  · rw [show min (7 - ((p % 8 : Nat) : Int)).toNat 64 = 7 - p % 8 by omega]

theorem c_one (h : RdB w b s p way) (hp : p < 8 * s.size) (hs : s.size ≤ 1000000) (w' : Int) :
    C116 (at0 b) w' w fun x w1 => x = bt s w' p ∧ RdB w1 b s (p + 1) way ∧ Ext (· = b) w w1 := by
  refine T116 _ _ _ _ ?_
  unfold S116
  have hS : ∀ w1, w1 = w.drew → RdB w1 b s p way := fun w1 e => e ▸ h.drew
  refine ⟨fun w1 => w1 = w.drew, rfl, Nn.of (LdS.of hS rfl (Nn.of (LdS.of hS rfl ⟨by omega, by omega, Nn.of ((c_place h.drew w').mono ?_)⟩)))⟩
  rintro x w1 ⟨rfl, rfl⟩
  rw [bt_of]
  have H : Hx w (· = b) w.drew _ := (Hx.one h).drew
  refine ⟨rfl, by split <;> omega, Nn.of (H.ld 0 rfl rfl (Nn.of (H.st 0 rfl (by simp) (.inl rfl) fun w2 H => Nn.of (H.ld 0 rfl rfl (Br_of (fun e => ?_) fun e => ?_)))))⟩
  · rw [i64_id (by omega)] at e
    have e : ((p % 8 : Nat) : Int) + 1 = 8 := by simpa using e
    refine Nn.of (H.st 0 rfl (by simp) (.inl rfl) fun w3 H => Nn.of (H.ld 0 rfl rfl (Nn.of (H.st 0 rfl (by simp) (.inl rfl) fun w4 H => ⟨rfl, ?_, H.ext⟩))))
    have := H.get 0 rfl
    unfold RdB
    rw [show (p + 1) % 8 = 0 by omega, show (p + 1) / 8 = p / 8 + 1 by omega]
    rw [i64_id (n := ((p / 8 : Nat) : Int) + 1) (by omega)] at this
    exact this
  · rw [i64_id (by omega)] at e
    have e : ¬ ((p % 8 : Nat) : Int) + 1 = 8 := by simpa using e
    refine ⟨rfl, ?_, H.ext⟩
    have := H.get 0 rfl
    unfold RdB
    rw [show (p + 1) % 8 = p % 8 + 1 by omega, show (p + 1) / 8 = p / 8 by omega]
    rw [i64_id (n := ((p % 8 : Nat) : Int) + 1) (by omega)] at this
    exact this

/-- What Low and High answer: the value, the error, the new place, the new order. -/
def tkR (s : ByteArray) (p : Nat) (way n w' : Int) : Int × Int × Nat × Int :=
  if n < 0 ∨ 24 < n ∨ (way ≠ 0 ∧ way ≠ w') then (0, 1, p, way)
  else if ((8 * s.size - p : Nat) : Int) < n then (0, 4, p, way)
  else (tk s w' p n.toNat, 0, p + n.toNat, if 0 < n then w' else way)
theorem tkR_arg {n w' : Int} (h : n < 0 ∨ 24 < n ∨ (way ≠ 0 ∧ way ≠ w')) : tkR s p way n w' = (0, 1, p, way) := if_pos h
theorem tkR_end {n w' : Int} (h : ¬ (n < 0 ∨ 24 < n ∨ (way ≠ 0 ∧ way ≠ w'))) (h2 : ((8 * s.size - p : Nat) : Int) < n) : tkR s p way n w' = (0, 4, p, way) := by
  unfold tkR; rw [if_neg h, if_pos h2]
theorem tkR_ok {n w' : Int} (h : ¬ (n < 0 ∨ 24 < n ∨ (way ≠ 0 ∧ way ≠ w'))) (h2 : ¬ ((8 * s.size - p : Nat) : Int) < n) :
    tkR s p way n w' = (tk s w' p n.toNat, 0, p + n.toNat, if 0 < n then w' else way) := by
  unfold tkR; rw [if_neg h, if_neg h2]
theorem tkR_le {n w' : Int} (hp : p ≤ 8 * s.size) : (tkR s p way n w').2.2.1 ≤ 8 * s.size := by
  unfold tkR
  split
  · exact hp
  · split
    · exact hp
    · dsimp only; omega

theorem c_take (h : RdB w b s p way) (hp : p ≤ 8 * s.size) (hs : s.size ≤ 1000000) (n w' : Int) (hw' : w' = 1 ∨ w' = 2) :
    C100 (at0 b) n w' w fun v e w1 => v = (tkR s p way n w').1 ∧ e = (tkR s p way n w').2.1 ∧ RdB w1 b s (tkR s p way n w').2.2.1 (tkR s p way n w').2.2.2 ∧ Ext (· = b) w w1 := by
  refine T100 _ _ _ _ _ ?_
  unfold S100
  refine Br_of (fun e => ?_) fun _ => ?_
  · cases e
  refine Br_of (fun e => ?_) fun e1 => Br_of (fun e => ?_) fun e2 => Nn.of ((c_other h w').mono ?_)
  · rw [tkR_arg (.inl (by simpa using e))]; exact ⟨rfl, rfl, h, Ext.refl _ _⟩
  · rw [tkR_arg (.inr (.inl (by simpa using e)))]; exact ⟨rfl, rfl, h, Ext.refl _ _⟩
  rintro x w1 ⟨rfl, rfl⟩
  refine Br_of (fun e => ?_) fun e3 => ?_
  · rw [tkR_arg (.inr (.inr (by simpa using e)))]; exact ⟨rfl, rfl, h, Ext.refl _ _⟩
  have h0 : ¬ n < 0 := by simpa using e1
  have h24 : n ≤ 24 := by simpa using e2
  have hw : ¬ (way ≠ 0 ∧ way ≠ w') := by simpa using e3
  have hno : ¬ (n < 0 ∨ 24 < n ∨ (way ≠ 0 ∧ way ≠ w')) := by omega
  refine (c_left h hp hs).mono ?_
  rintro x w2 ⟨rfl, rfl⟩
  refine Br_of (fun e => ?_) fun e4 => ?_
  · rw [tkR_end hno (by simpa using e)]; exact ⟨rfl, rfl, h.drew, (Ext.refl _ _).drew⟩
  have hn : n ≤ ((8 * s.size - p : Nat) : Int) := by simpa using e4
  rw [tkR_ok hno (by omega)]
  obtain ⟨m, rfl⟩ := Int.eq_ofNat_of_zero_le (show 0 ≤ n by omega)
  rw [Int.toNat_natCast]
  refine ⟨fun k st w3 => ∃ i : Nat, i ≤ m ∧ k = m - i ∧ st = (tk s w' p i, (i : Int)) ∧ RdB w3 b s (p + i) way ∧ Ext (· = b) w1 w3, m, ⟨0, by omega, by omega, rfl, h.drew, (Ext.refl _ _).drew⟩, ?_⟩
  rintro k st w3 ⟨i, hi, rfl, rfl, hr, hx⟩
  unfold S100L1
  have hb := tk_bd s w' p i
  have hp24 := two_pow_24 (show i ≤ 24 by omega)
  refine Br_of (fun e => ?_) fun e => ?_
  · have hlt : i < m := by simpa using e
    refine (c_one hr (by omega) hs w').mono ?_
    rintro x w4 ⟨rfl, hr', hx'⟩
    have hbb := bt_bd s w' (p + i)
    have h2 : m - (i + 1) < m - i := by omega
    dsimp only
    rw [i64_id (n := (i : Int) + 1) (by omega)]
    rcases hw' with rfl | rfl
    · simp only [beq_self_eq_true, Br_true]
      have h3 : bt s 1 (p + i) * 2 ^ i ≤ 1 * 2 ^ i := Int.mul_le_mul_of_nonneg_right hbb.2 (Int.le_of_lt (two_pow_pos i))
      have h4 : 0 ≤ bt s 1 (p + i) * 2 ^ i := Int.mul_nonneg hbb.1 (Int.le_of_lt (two_pow_pos i))
      refine ⟨by omega, _, h2, i + 1, by omega, rfl, ?_, hr', hx.tr hx'⟩
      rw [show min ((i : Int)).toNat 64 = i by omega, i64_id (by omega), ior_low hb.1 hb.2 hbb (by omega)]
      simp [tk]
    · simp only [show ((2 : Int) == 1) = false by rfl, Br_false]
      refine ⟨_, h2, i + 1, by omega, rfl, ?_, hr', hx.tr hx'⟩
      rw [show tk s 2 p i * 2 ^ 1 = tk s 2 p i * 2 by simp, i64_id (by omega), ior_high hb.1 (by omega) hbb]
      simp [tk]
  · have hge : i = m := by
      have : ¬ (i : Int) < m := by simpa using e
      omega
    subst hge
    refine Br_of (fun e => ?_) fun e => ?_
    · have hpos : (0 : Int) < i := by simpa using e
      rw [if_pos hpos]
      refine Nn.of ((Hx.one (F := (· = b)) hr).st 0 rfl (by simp) (.inl rfl) fun w5 H => ⟨rfl, rfl, H.get 0 rfl, hx.tr H.ext⟩)
    · have hz : ¬ (0 : Int) < i := by simpa using e
      rw [if_neg hz]
      exact ⟨rfl, rfl, hr, hx⟩

theorem c_low (h : RdB w b s p way) (hp : p ≤ 8 * s.size) (hs : s.size ≤ 1000000) (n : Int) :
    C72 (at0 b) n w fun v e w1 => v = (tkR s p way n 1).1 ∧ e = (tkR s p way n 1).2.1 ∧ RdB w1 b s (tkR s p way n 1).2.2.1 (tkR s p way n 1).2.2.2 ∧ Ext (· = b) w w1 :=
  T72 _ _ _ _ (c_take h hp hs n 1 (.inl rfl))
theorem c_from (w : World) (s : ByteArray) : C28 s w fun r w1 => r = at0 w.heap.size ∧ RdB w1 w.heap.size s 0 0 ∧ Ext (fun _ => False) w w1 := by
  refine T28 _ _ _ ?_
  unfold S28
  exact (Hx.start w (fun _ => False)).nw fun w2 H => ⟨rfl, H.get 0 rfl, H.ext⟩
theorem c_align (h : RdB w b s p way) (hp : p ≤ 8 * s.size) (hs : s.size ≤ 1000000) : C73 (at0 b) w fun w1 => RdB w1 b s ((p + 7) / 8 * 8) 0 ∧ Ext (· = b) w w1 := by
  refine T73 _ _ _ ?_
  unfold S73
  have H : Hx w (· = b) w _ := Hx.one h
  refine Nn.of (H.ld 0 rfl rfl (Br_of (fun e => ?_) fun e => ?_))
  · have e : (0 : Int) < ((p % 8 : Nat) : Int) := by simpa using e
    refine Nn.of (H.ld 0 rfl rfl (Nn.of (H.st 0 rfl (by simp) (.inl rfl) fun w2 H => Nn.of (H.st 0 rfl (by simp) (.inl rfl) fun w3 H => H.st 0 rfl (by simp) (.inl rfl) fun w4 H => ⟨?_, H.ext⟩))))
    have := H.get 0 rfl
    unfold RdB
    rw [show (p + 7) / 8 * 8 % 8 = 0 by omega, show (p + 7) / 8 * 8 / 8 = p / 8 + 1 by omega]
    rw [i64_id (by omega)] at this
    exact this
  · have e : ¬ (0 : Int) < ((p % 8 : Nat) : Int) := by simpa using e
    refine Nn.of (H.st 0 rfl (by simp) (.inl rfl) fun w2 H => H.st 0 rfl (by simp) (.inl rfl) fun w3 H => ⟨?_, H.ext⟩)
    have := H.get 0 rfl
    unfold RdB
    rw [show (p + 7) / 8 * 8 % 8 = 0 by omega, show (p + 7) / 8 * 8 / 8 = p / 8 by omega]
    exact this

/-- What Raw answers. -/
def rawR (s : ByteArray) (p : Nat) (n : Int) : ByteArray × Int × Nat :=
  if n < 0 ∨ p % 8 ≠ 0 then (⟨#[]⟩, 1, p)
  else if ((s.size - p / 8 : Nat) : Int) < n then (⟨#[]⟩, 4, p)
  else (s.extract (p / 8) (p / 8 + n.toNat), 0, p + 8 * n.toNat)
theorem rawR_arg {n : Int} (h : n < 0 ∨ p % 8 ≠ 0) : rawR s p n = (⟨#[]⟩, 1, p) := if_pos h
theorem rawR_end {n : Int} (h : ¬ (n < 0 ∨ p % 8 ≠ 0)) (h2 : ((s.size - p / 8 : Nat) : Int) < n) : rawR s p n = (⟨#[]⟩, 4, p) := by
  unfold rawR; rw [if_neg h, if_pos h2]
theorem rawR_ok {n : Int} (h : ¬ (n < 0 ∨ p % 8 ≠ 0)) (h2 : ¬ ((s.size - p / 8 : Nat) : Int) < n) : rawR s p n = (s.extract (p / 8) (p / 8 + n.toNat), 0, p + 8 * n.toNat) := by
  unfold rawR; rw [if_neg h, if_neg h2]
theorem rawR_le {n : Int} (hp : p ≤ 8 * s.size) : (rawR s p n).2.2 ≤ 8 * s.size := by
  unfold rawR
  split
  · exact hp
  · split
    · exact hp
    · dsimp only; omega
theorem c_raw (h : RdB w b s p way) (hp : p ≤ 8 * s.size) (hs : s.size ≤ 1000000) (n : Int) :
    C76 (at0 b) n w fun v e w1 => v = (rawR s p n).1 ∧ e = (rawR s p n).2.1 ∧ RdB w1 b s (rawR s p n).2.2 way ∧ Ext (· = b) w w1 := by
  refine T76 _ _ _ _ ?_
  unfold S76
  have H : Hx w (· = b) w _ := Hx.one h
  refine Br_of (fun e => ?_) fun _ => Br_of (fun e => ?_) fun e1 => Nn.of (H.ld 0 rfl rfl (Br_of (fun e => ?_) fun e2 => Nn.of (H.drew.ld 0 rfl rfl (Nn.of (H.drew.ld 0 rfl rfl (Br_of (fun e => ?_) fun e3 => ?_))))))
  · cases e
  · rw [rawR_arg (.inl (by simpa using e))]; exact ⟨rfl, rfl, h, H.ext⟩
  · have e : (0 : Int) < ((p % 8 : Nat) : Int) := by simpa using e
    rw [rawR_arg (.inr (by omega))]; exact ⟨rfl, rfl, h, H.ext⟩
  · have h0 : ¬ n < 0 := by simpa using e1
    have h8 : ¬ (0 : Int) < ((p % 8 : Nat) : Int) := by simpa using e2
    rw [i64_id (by omega)] at e
    have e : (s.size : Int) - ((p / 8 : Nat) : Int) < n := by simpa using e
    rw [rawR_end (by omega) (by omega)]; exact ⟨rfl, rfl, h.drew, H.drew.ext⟩
  · have h0 : ¬ n < 0 := by simpa using e1
    have h8 : ¬ (0 : Int) < ((p % 8 : Nat) : Int) := by simpa using e2
    rw [i64_id (by omega)] at e3
    have e3 : ¬ (s.size : Int) - ((p / 8 : Nat) : Int) < n := by simpa using e3
    rw [rawR_ok (by omega) (by omega)]
    obtain ⟨m, rfl⟩ := Int.eq_ofNat_of_zero_le (show 0 ≤ n by omega)
    rw [Int.toNat_natCast]
    refine Nn.of (H.drew.ld 0 rfl rfl (Nn.of (H.drew.st 0 rfl (by simp) (.inl rfl) fun w2 H => Nn.of (H.drew.ld 0 rfl rfl (Nn.of (H.drew.ld 0 rfl rfl (Nn.of (H.drew.ld 0 rfl rfl ?_))))))))
    rw [i64_id (n := ((p / 8 : Nat) : Int) + (m : Int)) (by omega), i64_id (by omega)]
    refine ⟨by omega, by omega, by omega, by omega, ?_, rfl, ?_, H.drew.ext⟩
    · rw [show (((p / 8 : Nat) : Int) + (m : Int) - (m : Int)).toNat = p / 8 by omega, show (((p / 8 : Nat) : Int) + (m : Int)).toNat = p / 8 + m by omega]
    · have := H.drew.get 0 rfl
      rw [i64_id (n := ((p / 8 : Nat) : Int) + (m : Int)) (by omega)] at this
      unfold RdB
      rw [show (p + 8 * m) % 8 = p % 8 by omega, show (p + 8 * m) / 8 = p / 8 + m by omega]
      exact this

/-! ### The reference's reader -/

theorem bt_low (s : ByteArray) (p : Nat) (hp : p ≤ 8000000) : Int.tmod (Int.fdiv (IntKind.i64.wrap (bAt s (IntKind.i64.wrap (Int.tdiv (p : Int) 8)))) (2 ^ (min (Int.tmod (p : Int) 8).toNat 64))) 2 = bt s 1 p := by
  have hb := byt_bd s (p / 8)
  have hm : Int.tmod (p : Int) 8 = ((p % 8 : Nat) : Int) := by rw [tmod_id (by omega)]; rfl
  have hd : IntKind.i64.wrap (Int.tdiv (p : Int) 8) = ((p / 8 : Nat) : Int) := by rw [tdiv_id (by omega), i64_id (by omega)]; rfl
  rw [hm, hd, bAt_byt, i64_id (by omega), fdiv_pow, tmod_id (ediv_pow_bd hb.1).1, show min ((p % 8 : Nat) : Int).toNat 64 = p % 8 by omega]
  rfl
theorem bt_high (s : ByteArray) (p : Nat) (hp : p ≤ 8000000) : Int.tmod (Int.fdiv (IntKind.i64.wrap (bAt s (IntKind.i64.wrap (Int.tdiv (p : Int) 8)))) (2 ^ (min (IntKind.i64.wrap (7 - (Int.tmod (p : Int) 8))).toNat 64))) 2 = bt s 2 p := by
  have hb := byt_bd s (p / 8)
  have hm : Int.tmod (p : Int) 8 = ((p % 8 : Nat) : Int) := by rw [tmod_id (by omega)]; rfl
  have hd : IntKind.i64.wrap (Int.tdiv (p : Int) 8) = ((p / 8 : Nat) : Int) := by rw [tdiv_id (by omega), i64_id (by omega)]; rfl
  rw [hm, hd, bAt_byt, i64_id (n := byt s (p / 8)) (by omega), fdiv_pow, tmod_id (ediv_pow_bd hb.1).1, i64_id (by omega), show min (7 - ((p % 8 : Nat) : Int)).toNat 64 = 7 - p % 8 by omega]
  rfl

end
end Bit
end Go.Proofs.YtjkoafjnmkchdaaGreatDoor

/- Inflate: the program's codes: Codes, Clone, New, Read. Conditions: sizes. -/
namespace Go.Proofs.YtjkoafjnmkchdaaGreatDoor
namespace Inf
open Sh Bit
set_option linter.unusedVariables false
set_option linter.unusedSimpArgs false
set_option maxRecDepth 4000
set_option maxHeartbeats 2000000
def codeL (lens : List Int) (i : Nat) : Int := if 0 < lens.getD i 0 then fs (cn lens) (lens.getD i 0).toNat + (cntT lens (lens.getD i 0).toNat i : Int) else 0
def codesT (lens : List Int) (i : Nat) : List Int := (List.range i).map (codeL lens) ++ List.replicate (lens.length - i) 0
def codes (lens : List Int) : List Int := (List.range lens.length).map (codeL lens)
theorem codesT_len (lens : List Int) {i : Nat} (hi : i ≤ lens.length) : (codesT lens i).length = lens.length := by
  unfold codesT
  simp
  omega
theorem codesT_set (lens : List Int) {i : Nat} (hi : i < lens.length) (x : Int) (hx : x = codeL lens i) : (codesT lens i).set i x = codesT lens (i + 1) := by
  unfold codesT
  rw [List.set_append_right _ _ (by simp), List.length_map, List.length_range, Nat.sub_self, show lens.length - i = (lens.length - (i + 1)) + 1 by omega, List.replicate_succ, List.set_cons_zero, List.range_succ, List.map_append, List.append_assoc, hx]
  rfl
theorem codesT_skip (lens : List Int) {i : Nat} (hi : i < lens.length) (hx : codeL lens i = 0) : codesT lens (i + 1) = codesT lens i := by
  unfold codesT
  rw [show lens.length - i = (lens.length - (i + 1)) + 1 by omega, List.replicate_succ, List.range_succ, List.map_append, List.append_assoc]
  simp [hx]
theorem codesT_end (lens : List Int) : codesT lens lens.length = codes lens := by unfold codesT codes; simp
theorem flat_zero (n : Nat) : (List.replicate n [Value.int .i64 0]).flatten = ints (List.replicate n 0) := by
  unfold ints
  induction n with
  | zero => rfl
  | succ n ih => rw [List.replicate_succ, List.flatten_cons, ih, List.replicate_succ]; rfl
theorem IV.blk {w : World} {g n : Nat} {l : List Int} {t : TypeId} (h : Blk w g (ints l).toArray t) (hn : n = l.length) : IV w ⟨some ⟨g, 0, none⟩, n, n⟩ l := ⟨hn, VRow.of h (by rw [ints_len, hn]; omega)⟩
theorem IV.row {w : World} {s : Slc} {l : List Int} {t : TypeId} (h : Row w s t 1 (ints l)) : IV w s l := by
  refine ⟨?_, h.view⟩
  have := h.1
  rw [ints_len] at this
  omega
theorem row_cap {w : World} {s : Slc} {t : TypeId} {k : Nat} {xs : List Value} (h : Row w s t k xs) : s.len ≤ s.cap := by
  rcases h.2 with h | ⟨g, cur, h1, h2, h3, h4, h5⟩
  · rw [h]; exact Nat.le_refl _
  · exact h3
/-- The tail of a slice. -/
theorem IV.drop {w : World} {s : Slc} {l : List Int} (h : IV w s l) (hc : s.len ≤ s.cap) {d : Nat} (hd : d ≤ l.length) : IV w (s.cut 1 d s.len s.cap) (l.drop d) ∧ (s.cut 1 d s.len s.cap).len ≤ (s.cut 1 d s.len s.cap).cap := by
  have h1 := h.1
  refine ⟨⟨?_, ?_⟩, ?_⟩
  · show s.len - d = _
    rw [List.length_drop]; omega
  · refine ⟨?_, fun j v hj => ?_⟩
    · rw [ints_len, List.length_drop]
      show _ = (s.len - d) * 1
      omega
    · have hjl : j < (l.drop d).length := by
        have := (List.getElem?_eq_some_iff.1 hj).1
        rw [ints_len] at this
        exact this
      rw [List.length_drop] at hjl
      obtain ⟨a, ha, hc'⟩ := h.2.2 (d + j) v (by
        rw [← hj]
        unfold ints
        rw [List.getElem?_map, List.getElem?_map, List.getElem?_drop])
      refine ⟨a.add d, ?_, by rw [add_add']; exact hc'⟩
      show (if s.cap = d then s.p else s.p.map (·.add (d * 1))) = _
      rw [if_neg (by omega), ha, Nat.mul_one]
      rfl
  · show s.len - d ≤ s.cap - d
    omega
theorem cut_own {s : Slc} {d j : Nat} (h : (s.cut 1 d s.len s.cap).own j) : s.own j := by
  obtain ⟨a, ha, rfl⟩ := h
  have ha : (if s.cap = d then s.p else s.p.map (·.add (d * 1))) = some a := ha
  split at ha
  · exact ⟨a, ha, rfl⟩
  · obtain ⟨x, hx, rfl⟩ := Option.map_eq_some_iff.1 ha
    exact ⟨x, hx, (add_block x _).symm⟩
def nx (lens : List Int) (i : Nat) (n : Nat) : Int := fs (cn lens) n + cf lens i n
theorem nx_step {lens : List Int} {i n : Nat} (h : lens.getD i 0 = (n : Int)) (hn : 0 < n) : upd (nx lens i) n (nx lens i n + 1) = nx lens (i + 1) := by
  have hc := cf_step h hn
  funext j
  have hj := congrFun hc j
  unfold upd at hj ⊢
  unfold nx
  by_cases e : j = n
  · subst e
    rw [if_pos rfl] at hj ⊢
    omega
  · rw [if_neg e] at hj ⊢
    rw [hj]
attribute [local irreducible] Ld St Nw Nn Lt LdS
section
variable {w : World} {s : Slc} {lens : List Int}
theorem c_codes (h : IV w s lens) : C89 s w fun r e w1 => e = chk lens ∧ Ext (fun _ => False) w w1 ∧ (chk lens = 0 → IV w1 r (codes lens) ∧ ∀ j, r.own j → w.heap.size ≤ j ∧ j < w1.heap.size) := by
  refine T89 _ _ _ ?_
  unfold S89
  refine (c_chk h).mono ?_
  rintro r w1 ⟨rfl, he1⟩
  refine Br.ne (fun q => ⟨rfl, he1, fun hh => absurd hh q⟩) fun q => ?_
  have hk := chk_lok q
  have hlen := hk.len
  refine (c_counted (h.keep he1) hk).mono ?_
  rintro r w2 ⟨rfl, he2⟩
  refine (c_firsts (f := cn lens) (fun n => cn_bd hlen n) w2).mono ?_
  rintro r w3 ⟨rfl, he3⟩
  have E3 := he1.tr (he2.tr he3)
  refine (Hn.start w3).nw fun w4 H => ?_
  simp only [List.nil_append, add_lit, Nat.zero_add] at H ⊢
  refine st16 H 0 rfl rfl fun w5 H => ?_
  simp only [List.set_cons_zero, List.set_cons_succ] at H
  rw [h.1]
  obtain ⟨w6, hrun, hw6⟩ := elI.make (zs := [.int .i64 0]) rfl w5 lens.length (by omega) (by omega)
  refine ⟨_, w6, hrun, ?_⟩
  have hlt5 := H.lt 0 rfl
  have H : Hn w3 w6 [(w3.heap.size, lst16 (nx lens 0), 136), (w5.heap.size, ints (codesT lens 0), 3)] := by
    have e0 : nx lens 0 = fs (cn lens) := by
      funext j
      unfold nx cf
      split
      · omega
      · show _ + ((0 : Nat) : Int) = _; omega
    have e1 : codesT lens 0 = List.replicate lens.length 0 := by unfold codesT; simp
    rw [e0, e1, hw6, flat_zero]
    exact (H.keep ((Ext.refl _ _).alloc _)).push (Blk.new _ _ _) H.size (by simp; omega)
  refine ⟨fun n st w7 => ∃ i : Nat, st = (i : Int) ∧ i ≤ lens.length ∧ n = lens.length - i ∧ Hn w3 w7 [(w3.heap.size, lst16 (nx lens i), 136), (w5.heap.size, ints (codesT lens i), 3)], lens.length, ⟨0, rfl, by omega, rfl, H⟩, ?_⟩
  rintro n st w7 ⟨i, rfl, hi, rfl, H⟩
  unfold S89L1
  rw [h.1]
  refine Br.dec (fun q1 => ⟨by omega, by omega, ?_⟩) fun q1 => ?_
  · have hlt : i < lens.length := by omega
    obtain ⟨a, ha, hc⟩ := ((h.keep E3).keep H.ext).get hlt
    rw [ha, Int.toNat_natCast]
    have hn := hk.nn i
    obtain ⟨m, hm⟩ := Int.eq_ofNat_of_zero_le hn.1
    have b1 := fs_bd (fun n => cn_bd hlen n) m
    have b2 := cf_bd (lens := lens) (i := i) (by omega) m
    have hp := two_pow_le (show m ≤ 15 by omega)
    have h15 : (2 : Int) ^ 15 = 32768 := by decide
    have hnx : nx lens i m = fs (cn lens) m + cf lens i m := rfl
    refine Nn.of (Ld.mk hc ?_)
    rw [hm]
    refine Br.dec (fun q2 => ⟨by omega, by omega, ?_⟩) fun q2 => ?_
    · have hcode : nx lens i m = codeL lens i := by
        unfold codeL
        rw [if_pos (by omega), hm, Int.toNat_natCast, hnx]
        unfold cf
        rw [if_neg (by omega)]
      simp only [add_lit, Int.toNat_natCast, Nat.mul_one, Nat.zero_add]
      refine H.ld 0 rfl (lst16_get _ (by omega)) ⟨by omega, by omega, Nn.of ?_⟩
      simp only [add_lit, Int.toNat_natCast, Nat.mul_one, Nat.zero_add]
      refine H.st 1 rfl (by rw [ints_len, codesT_len _ hi]; omega) fun w8 H => ?_
      simp only [List.set_cons_zero, List.set_cons_succ] at H
      rw [ints_set, codesT_set _ hlt _ hcode] at H
      refine ⟨by omega, by omega, H.ld 0 rfl (lst16_get _ (by omega)) ⟨by omega, by omega, H.st 0 rfl (by rw [lst16_len]; omega) fun w9 H => ?_⟩⟩
      simp only [List.set_cons_zero, List.set_cons_succ] at H
      rw [i64_id (n := nx lens i m + 1) (by omega), lst16_set _ (by omega), nx_step hm (by omega)] at H
      exact ⟨lens.length - (i + 1), by omega, i + 1, by rw [i64_id (by omega)]; rfl, by omega, rfl, H⟩
    · refine ⟨lens.length - (i + 1), by omega, i + 1, by rw [i64_id (by omega)]; rfl, by omega, rfl, ?_⟩
      have e : nx lens (i + 1) = nx lens i := by
        funext j
        unfold nx
        rw [cf_same (by omega)]
      rw [e, codesT_skip _ hlt (by unfold codeL; rw [if_neg (by omega)])]
      exact H
  · have : i = lens.length := by omega
    subst this
    rw [codesT_end] at H
    refine ⟨q.symm, E3.tr H.ext, fun _ => ⟨IV.blk (H.get 1 rfl) (by unfold codes; simp), fun j hj => ?_⟩⟩
    obtain ⟨a, ha, rfl⟩ := hj
    cases ha
    have := H.ge 1 rfl
    have := E3.size
    have := H.lt 1 rfl
    show w.heap.size ≤ w5.heap.size ∧ w5.heap.size < w7.heap.size
    omega
theorem c_clone (h : IV w s lens) (hlen : lens.length ≤ 100000) : C90 s w fun r w1 => IV w1 r lens ∧ Ext (fun _ => False) w w1 ∧ ∀ j, r.own j → w.heap.size ≤ j ∧ j < w1.heap.size := by
  refine T90 _ _ _ ?_
  unfold S90
  have h1 := h.1
  cases hp : s.p with
  | none =>
    have hl : lens = [] := by
      cases hl : lens with
      | nil => rfl
      | cons x r =>
        obtain ⟨a, ha, _⟩ := h.get (i := 0) (by rw [hl]; simp)
        rw [hp] at ha
        cases ha
    rw [hl]
    refine Br.t rfl ⟨IV.nil _, Ext.refl _ _, fun j hj => ?_⟩
    obtain ⟨a, ha, _⟩ := hj
    cases ha
  | some p =>
    refine Br.f rfl (Nw.of ?_)
    have e1 : Ext (fun _ => False) w (w.alloc (.cells #[] 3)) := (Ext.refl _ _).alloc _
    obtain ⟨s', w', r1, r2, r3, r4, r5⟩ := elI.app (ty := 76) (Row.new w #[] 3 1 0 rfl) (h.keep e1).2 (ints_one lens) (by show (0 + s.len) * 8 ≤ _; omega) (by show 0 + s.len ≤ _; omega)
    refine ⟨s', w', r1, IV.row (l := lens) (by simpa using r2), e1.trans r4 (fun _ h => h) (fun i hi hh => ?_), fun j hj => ?_⟩
    · obtain ⟨a, ha, rfl⟩ := hh
      cases ha
      exact absurd hi (Nat.lt_irrefl _)
    · refine ⟨?_, r2.own_lt hj⟩
      rcases r5 j hj with hh | hh
      · obtain ⟨a, ha, rfl⟩ := hh
        cases ha
        exact Nat.le_refl _
      · have := e1.size; omega
/-- A table's cells. -/
def tc (s1 s2 : Slc) (f g : Nat → Int) (s3 : Slc) : List Value := [Slc.v s1, Slc.v s2] ++ (lst16 f ++ (lst16 g ++ [Slc.v s3]))
theorem tc_n (s1 s2 : Slc) (f g : Nat → Int) (s3 : Slc) {j : Nat} (hj : j < 16) : (tc s1 s2 f g s3)[2 + j]? = some (.int .i64 (f j)) := by
  unfold tc
  rw [List.getElem?_append_right (by simp), show 2 + j - [Slc.v s1, Slc.v s2].length = j by simp, List.getElem?_append_left (by rw [lst16_len]; omega), lst16_get _ hj]
theorem tc_f (s1 s2 : Slc) (f g : Nat → Int) (s3 : Slc) {j : Nat} (hj : j < 16) : (tc s1 s2 f g s3)[18 + j]? = some (.int .i64 (g j)) := by
  unfold tc
  rw [List.getElem?_append_right (by simp; omega), show 18 + j - [Slc.v s1, Slc.v s2].length = 16 + j by simp; omega, List.getElem?_append_right (by rw [lst16_len]; omega), lst16_len, Nat.add_sub_cancel_left, List.getElem?_append_left (by rw [lst16_len]; omega), lst16_get _ hj]
def ordI (l : List Nat) : List Int := l.map Int.ofNat
theorem ordT_len {lens : List Int} (h : lens.length ≤ 288) : ∀ n, (ordT lens n).length ≤ n * 288
  | 0 => Nat.le_refl _
  | n + 1 => by
    have ih := ordT_len h n
    have : (idxs lens (n + 1)).length ≤ lens.length := cntT_le lens (n + 1) lens.length
    show (ordT lens n ++ idxs lens (n + 1)).length ≤ _
    rw [List.length_append]
    omega
/-- A table of a code: its blocks lie between lo and hi. -/
def TB (w : World) (lo hi b : Nat) (lens : List Int) : Prop := ∃ s1 s2 s3 : Slc, Blk w b (tc s1 s2 (cn lens) (fs (cn lens)) s3).toArray 139 ∧ IV w s1 lens ∧ IV w s2 (codes lens) ∧ IV w s3 (ordI (ordT lens 15)) ∧ s3.len ≤ s3.cap ∧
  (lo ≤ b ∧ b < hi) ∧ (∀ j, s1.own j → lo ≤ j ∧ j < hi) ∧ (∀ j, s2.own j → lo ≤ j ∧ j < hi) ∧ ∀ j, s3.own j → lo ≤ j ∧ j < hi
theorem TB.keep {F : Nat → Prop} {w w' : World} {lo hi b : Nat} (h : TB w lo hi b lens) (he : Ext F w w') (hF : ∀ j, lo ≤ j → j < hi → ¬ F j) : TB w' lo hi b lens := by
  obtain ⟨s1, s2, s3, h1, h2, h3, h4, h5, h6, h7, h8, h9⟩ := h
  exact ⟨s1, s2, s3, he.blk h1 (hF _ h6.1 h6.2), h2.keepF he (fun j hj => hF j (h7 j hj).1 (h7 j hj).2), h3.keepF he (fun j hj => hF j (h8 j hj).1 (h8 j hj).2), h4.keepF he (fun j hj => hF j (h9 j hj).1 (h9 j hj).2), h5, h6, h7, h8, h9⟩
theorem own_lt' {w : World} {s : Slc} {l : List Int} (h : IV w s l) (hl : l ≠ []) {j : Nat} (hj : s.own j) : j < w.heap.size := by
  obtain ⟨a, ha, rfl⟩ := hj
  obtain ⟨a2, ha2, hc⟩ := h.get (i := 0) (List.length_pos_iff.2 hl)
  rw [ha] at ha2
  cases ha2
  have := cell_lt' hc
  rw [add_block] at this
  exact this
end
end Inf
end Go.Proofs.YtjkoafjnmkchdaaGreatDoor

/- Inflate: the program's tables: New, Read. Conditions: sizes. -/
namespace Go.Proofs.YtjkoafjnmkchdaaGreatDoor
namespace Inf
open Sh Bit
set_option linter.unusedVariables false
set_option linter.unusedSimpArgs false
set_option maxRecDepth 4000
set_option maxHeartbeats 2000000
theorem ordI_app (l m : List Nat) : ordI (l ++ m) = ordI l ++ ordI m := by unfold ordI; rw [List.map_append]
theorem ordI_len (l : List Nat) : (ordI l).length = l.length := by unfold ordI; simp
/-- The signs of k lengths from n on. -/
def ordR (lens : List Int) : Nat → Nat → List Nat
  | 0, _ => []
  | k + 1, n => idxs lens n ++ ordR lens k (n + 1)
theorem ordT_R (lens : List Int) : ∀ k l, ordT lens (l + k) = ordT lens l ++ ordR lens k (l + 1)
  | 0, l => by simp [ordR]
  | k + 1, l => by
    rw [show l + (k + 1) = (l + 1) + k by omega, ordT_R lens k (l + 1)]
    show (ordT lens l ++ idxs lens (l + 1)) ++ _ = ordT lens l ++ (idxs lens (l + 1) ++ ordR lens k (l + 1 + 1))
    rw [List.append_assoc]
theorem ordR_nil {lens : List Int} (hk : Lok lens) : ∀ k n, longest lens < n → ordR lens k n = []
  | 0, _, _ => rfl
  | k + 1, n, h => by
    have h1 : idxs lens n = [] := List.eq_nil_of_length_eq_zero (cnt_long hk h)
    show idxs lens n ++ ordR lens k (n + 1) = []
    rw [h1, ordR_nil hk k (n + 1) (by omega)]
    rfl
theorem long_cnt {lens : List Int} (hk : Lok lens) (h : 1 ≤ longest lens) : 0 < cnt lens (longest lens) := by
  rcases long_mem (lens := lens) lens.length with h0 | ⟨j, h1, h2⟩
  · unfold longest at h; rw [h0] at h; exact absurd h (by decide)
  · have hn := (used_kr hk lens.length).2.2.2.2.1
    have h3 : lens.getD j 0 = (longest lens : Int) := by rw [h2]; unfold longest; omega
    have := (idxs_at h3 h1).2
    omega
theorem ordR_ne {lens : List Int} (hk : Lok lens) : ∀ k n, 1 ≤ n → n ≤ longest lens → longest lens < n + k → 0 < (ordR lens k n).length
  | 0, n, _, h, h2 => by omega
  | k + 1, n, h0, h, h2 => by
    show 0 < (idxs lens n ++ ordR lens k (n + 1)).length
    rw [List.length_append]
    by_cases he : n = longest lens
    · have : (idxs lens n).length = cnt lens n := rfl
      have h3 := long_cnt hk (by omega)
      rw [← he] at h3
      omega
    · have := ordR_ne hk k (n + 1) (by omega) (by omega) (by omega)
      omega
theorem long15 {lens : List Int} (hk : Lok lens) : longest lens ≤ 15 := by
  have := (used_kr hk lens.length).2.2.2.2.2
  unfold longest
  omega
/-- The program's reader, that reads least significant bits first. -/
def RB (w : World) (b : Nat) (s : ByteArray) (p : Nat) : Prop := p ≤ 8 * s.size ∧ ∃ way : Int, (way = 0 ∨ way = 1) ∧ RdB w b s p way
theorem RB.keep {F : Nat → Prop} {w w' : World} {b : Nat} {s : ByteArray} {p : Nat} (h : RB w b s p) (he : Ext F w w') (hF : ¬ F b) : RB w' b s p := by
  obtain ⟨h1, way, h2, h3⟩ := h
  exact ⟨h1, way, h2, he.blk h3 hF⟩
theorem RB.lt {w : World} {b : Nat} {s : ByteArray} {p : Nat} (h : RB w b s p) : b < w.heap.size := by
  obtain ⟨h1, way, h2, h3⟩ := h
  exact Blk.lt h3
/-- What Low answers. -/
def NumR (s : ByteArray) (p n : Nat) (v e : Int) (q : Nat) : Prop := (num s p n = .ok (v, q) ∧ e = 0) ∨ (num s p n = .error 4 ∧ e = 4)
attribute [local irreducible] Ld St Nw Nn Lt LdS
section
variable {w : World} {s : Slc} {lens : List Int}
theorem c_lowN {b : Nat} {t : ByteArray} {p n : Nat} (h : RB w b t p) (hs : t.size ≤ 1000000) (hn : n ≤ 24) : C72 (at0 b) (n : Int) w fun v e w1 => Ext (· = b) w w1 ∧ ∃ q, NumR t p n v e q ∧ (e = 0 → RB w1 b t q) := by
  obtain ⟨hp, way, hw, hr⟩ := h
  refine (c_low hr hp hs (n : Int)).mono ?_
  rintro v e w1 ⟨rfl, rfl, h3, he⟩
  refine ⟨he, p + n, ?_, ?_⟩
  · unfold NumR num
    by_cases h1 : p + n ≤ 8 * t.size
    · rw [tkR_ok (by omega) (by omega), if_pos h1, Int.toNat_natCast]
      exact .inl ⟨rfl, rfl⟩
    · rw [tkR_end (by omega) (by omega), if_neg h1]
      exact .inr ⟨rfl, rfl⟩
  · intro h0
    by_cases h1 : p + n ≤ 8 * t.size
    · rw [tkR_ok (by omega) (by omega), Int.toNat_natCast] at h3
      refine ⟨h1, _, ?_, h3⟩
      dsimp only
      split
      · exact .inr rfl
      · exact hw
    · rw [tkR_end (by omega) (by omega)] at h0
      exact absurd h0 (by show ¬ (4 : Int) = 0; decide)
theorem c_new (h : IV w s lens) : C60 s w fun r e w1 => e = chk lens ∧ Ext (fun _ => False) w w1 ∧ (chk lens ≠ 0 → r = none) ∧ (chk lens = 0 → ∃ b, r = some (⟨b, 0, none⟩ : Addr) ∧ TB w1 w.heap.size w1.heap.size b lens) := by
  refine T60 _ _ _ ?_
  unfold S60
  refine (c_codes h).mono ?_
  rintro r2 e w1 ⟨rfl, he1, h1⟩
  refine Br.ne (fun q => ⟨rfl, he1, fun _ => rfl, fun hh => absurd hh q⟩) fun q => ?_
  obtain ⟨v2, o2⟩ := h1 q
  have hk := chk_lok q
  have hlen := hk.len
  refine (c_clone (h.keep he1) (by omega)).mono ?_
  rintro r5 w2 ⟨v5, he2, o5⟩
  refine (c_counted ((h.keep he1).keep he2) hk).mono ?_
  rintro r7 w3 ⟨rfl, he3⟩
  have z1 := he1.size
  have z2 := he2.size
  have z3 := he3.size
  refine (Hn.start w3).nw fun w4 H => ?_
  simp only [List.nil_append] at H
  have H : Hn w3 w4 [(w3.heap.size, tc r5 r2 (cn lens) (fun _ => 0) ⟨none, 0, 0⟩, 139)] := H
  refine Nn.of ?_
  simp only [add_lit, Nat.zero_add]
  refine ld16o (f := cn lens) H 2 0 rfl (fun j hj => tc_n _ _ _ _ _ hj) ?_
  refine (c_firsts (f := cn lens) (fun n => cn_bd hlen n) w4).mono ?_
  rintro r w5 ⟨rfl, he5⟩
  have H := H.keep he5
  refine Nn.of ?_
  simp only [add_lit, Nat.zero_add]
  refine st16o (pre := [Slc.v r5, Slc.v r2] ++ lst16 (cn lens)) (zs := lst16 fun _ => 0) (post := [Slc.v ⟨none, 0, 0⟩]) H 18 0 rfl rfl rfl fun w6 H => ?_
  simp only [List.set_cons_zero] at H
  have H : Hn w3 w6 [(w3.heap.size, tc r5 r2 (cn lens) (fs (cn lens)) ⟨none, 0, 0⟩, 139)] := H
  refine ⟨fun n st w7 => ∃ l : Nat, st = ((l + 1 : Nat) : Int) ∧ l ≤ 15 ∧ n = 15 - l ∧ ∃ s3 : Slc, Row w7 s3 3 1 (ints (ordI (ordT lens l))) ∧ (∀ j, s3.own j → w3.heap.size < j) ∧ Hn w3 w7 [(w3.heap.size, tc r5 r2 (cn lens) (fs (cn lens)) s3, 139)], 15, ⟨0, rfl, by omega, rfl, ⟨none, 0, 0⟩, Row.nil _ _ _, fun j hj => (by obtain ⟨a, ha, _⟩ := hj; cases ha), H⟩, ?_⟩
  rintro n st w7 ⟨l, rfl, hl, rfl, s3, hrow, own3, H⟩
  unfold S60L2
  refine Br.dec (fun q1 => ?_) fun q1 => ?_
  · refine ⟨fun n st w8 => ∃ i : Nat, st = (i : Int) ∧ i ≤ lens.length ∧ n = lens.length - i ∧ ∃ s3 : Slc, Row w8 s3 3 1 (ints (ordI (ordT lens l ++ idxT lens (l + 1) i))) ∧ (∀ j, s3.own j → w3.heap.size < j) ∧ Hn w3 w8 [(w3.heap.size, tc r5 r2 (cn lens) (fs (cn lens)) s3, 139)], lens.length, ⟨0, rfl, by omega, rfl, s3, by rw [show idxT lens (l + 1) 0 = [] by rfl, List.append_nil]; exact hrow, own3, H⟩, ?_⟩
    rintro n st w8 ⟨i, rfl, hi, rfl, s3, hrow, own3, H⟩
    unfold S60L1
    rw [h.1]
    refine Br.dec (fun q2 => ⟨by omega, by omega, ?_⟩) fun q2 => ?_
    · have hlt : i < lens.length := by omega
      obtain ⟨a, ha, hc⟩ := ((((h.keep he1).keep he2).keep he3).keep H.ext).get hlt
      rw [ha, Int.toNat_natCast]
      have hsc := idxT_succ lens (l + 1) i
      refine Nn.of (Ld.mk hc (Br.eq (fun q3 => Nn.of ?_) fun q3 => ?_))
      · rw [if_pos q3] at hsc
        simp only [add_lit, Nat.zero_add]
        refine H.ld 0 rfl rfl ?_
        have hlt8 := H.lt 0 rfl
        refine H.nw' fun w9 H9 he9 => ?_
        simp only [List.cons_append, List.nil_append] at H9
        have hb1 := ordT_len hlen l
        have hb2 : (idxT lens (l + 1) i).length ≤ i := cntT_le lens (l + 1) i
        have hrl := hrow.1
        rw [ints_len, ordI_len, List.length_append] at hrl
        obtain ⟨s4, w10, g1, g2, g3, g4, g5⟩ := elI.app1 (ty := 76) (ys := [.int .i64 (i : Int)]) (hrow.keep he9 fun _ _ h => h) (H9.get 1 rfl) rfl (by intro v hv; rw [List.mem_singleton.1 hv]; rfl) (by omega) (by omega)
        refine ⟨s4, w10, g1, Nn.of ?_⟩
        have own8 : ∀ j, s3.own j → j < w8.heap.size := fun j hj => hrow.own_lt hj
        have H10 := (H9.left (L := [_]) (M := [_])).other g4 fun j hj => ⟨by have := own3 j hj; omega, by have := own3 j hj; simp; omega⟩
        simp only [add_lit, Nat.zero_add]
        have own4 : ∀ j, s4.own j → w3.heap.size < j := fun j hj => by
          rcases g5 j hj with hh | hh
          · exact own3 j hh
          · have := he9.size; omega
        refine H10.st' 0 rfl (by show 34 < 35; omega) fun w11 H he11 => ?_
        simp only [List.set_cons_zero] at H
        refine ⟨lens.length - (i + 1), by omega, i + 1, by rw [i64_id (by omega)]; rfl, by omega, rfl, s4, ?_, own4, H⟩
        have e : ints (ordI (ordT lens l ++ idxT lens (l + 1) (i + 1))) = ints (ordI (ordT lens l ++ idxT lens (l + 1) i)) ++ [.int .i64 (i : Int)] := by
          rw [hsc, ← List.append_assoc, ordI_app, ints_app]
          rfl
        rw [e]
        exact g2.keep he11 fun j hj e => by have := own4 j hj; have e : j = w3.heap.size := e; omega
      · rw [if_neg q3] at hsc
        exact ⟨lens.length - (i + 1), by omega, i + 1, by rw [i64_id (by omega)]; rfl, by omega, rfl, s3, by rw [hsc]; exact hrow, own3, H⟩
    · have : i = lens.length := by omega
      subst this
      exact ⟨15 - (l + 1), by omega, l + 1, by rw [i64_id (by omega)]; rfl, by omega, rfl, s3, hrow, own3, H⟩
  · have : l = 15 := by omega
    subst this
    have z7 := H.lt 0 rfl
    have E := (he1.tr he2).tr he3
    refine ⟨q.symm, E.tr H.ext, fun hh => absurd q hh, fun _ => ⟨_, rfl, r5, r2, s3, H.get 0 rfl, (v5.keep he3).keep H.ext, ((v2.keep he2).keep he3).keep H.ext, IV.row hrow, row_cap hrow, ⟨by omega, z7⟩, fun j hj => ?_, fun j hj => ?_, fun j hj => ?_⟩⟩
    · have := o5 j hj; omega
    · have := o2 j hj; omega
    · have := own3 j hj; have := hrow.own_lt hj; omega
theorem getD_app {l m : List Int} {i : Nat} (h : i < l.length) : (l ++ m).getD i 0 = l.getD i 0 := by
  rw [List.getD_eq_getElem?_getD, List.getElem?_append_left h, List.getD_eq_getElem?_getD]
theorem ordI_get (l : List Nat) (i : Nat) : (ordI l).getD i 0 = ((l.getD i 0 : Nat) : Int) := by
  unfold ordI
  rw [List.getD_eq_getElem?_getD, List.getElem?_map, List.getD_eq_getElem?_getD]
  cases l[i]? <;> rfl
theorem sgo_zero {lens : List Int} {b : ByteArray} {n : Nat} {c f : Int} {p : Nat} : sgo lens b 0 n c f p = .error 13 := rfl
/-- What a table's Read answers. -/
def TR (lens : List Int) (b : ByteArray) (p : Nat) (v e : Int) (q : Nat) : Prop := (∃ g : Nat, sym lens b p = .ok (g, q) ∧ v = (g : Int) ∧ e = 0) ∨ (sym lens b p = .error e ∧ e ≠ 0)
theorem c_tread {lo hi tb rb p : Nat} {b : ByteArray} (ht : TB w lo hi tb lens) (hk : Lok lens) (hr : RB w rb b p) (hs : b.size ≤ 1000000) (hrb : rb < lo ∨ hi ≤ rb) :
    C101 (some (⟨tb, 0, none⟩ : Addr)) (at0 rb) w fun v e w1 => Ext (· = rb) w w1 ∧ ∃ q, TR lens b p v e q ∧ (e = 0 → RB w1 rb b q) := by
  refine T101 _ _ _ _ ?_
  unfold S101
  obtain ⟨s1, s2, s3, h1, h2, h3, h4, h5, h6, h7, h8, h9⟩ := ht
  have hlen := hk.len
  have h15 := long15 hk
  refine Br.f rfl (Br.f rfl (Nn.of ?_))
  simp only [add_lit, Nat.zero_add]
  refine Ld.of h1 (o := 34) (x := s3) rfl ?_
  have hne : tb ≠ rb := by omega
  refine ⟨fun k st w5 => ∃ (n : Nat) (c : Int) (q : Nat) (left : Slc), st = (left, c, (n : Int)) ∧ 1 ≤ n ∧ n ≤ 16 ∧ k = 16 - n ∧ IV w5 left (ordI (ordR lens (16 - n) n)) ∧ left.len ≤ left.cap ∧ (∀ j, left.own j → s3.own j) ∧ fs (cn lens) n ≤ 2 * c ∧ 0 ≤ fs (cn lens) n ∧ 0 ≤ c ∧ 2 * c + 2 ≤ 2 ^ n ∧ ∃ f : Int, fs (cn lens) n = 2 * f ∧ sgo lens b (longest lens + 1 - n) n c f q = sym lens b p ∧ RB w5 rb b q ∧ Ext (· = rb) w w5, 15, ⟨1, 0, p, s3, rfl, by omega, by omega, rfl, ?_, h5, fun j hj => hj, by show (0 : Int) ≤ 2 * 0; decide, by show (0 : Int) ≤ 0; decide, Int.le_refl _, by decide, 0, rfl, ?_, hr, Ext.refl _ _⟩, ?_⟩
  · have e := ordT_R lens 15 0
    rw [Nat.zero_add] at e
    have e : ordT lens 15 = ordR lens 15 1 := e
    rw [← e]
    exact h4
  · rw [Nat.add_sub_cancel]; rfl
  rintro k st w5 ⟨n, c, q, left, rfl, hn1, hn16, rfl, hv, hcap, hown, hfc, hf0, hc0, hc2, f, hff, hsg, hrd, he⟩
  unfold S101L1
  dsimp only
  have hlv := hv.1
  rw [ordI_len] at hlv
  have hp16 := two_pow_le (show n ≤ 16 by omega)
  have h16 : (2 : Int) ^ 16 = 65536 := by decide
  refine Br.dec (fun q1 => ?_) fun q1 => ?_
  · have hnl : n ≤ longest lens := by
      by_cases hh : n ≤ longest lens
      · exact hh
      · rw [ordR_nil hk _ n (by omega)] at hlv
        simp only [List.length_nil] at hlv
        omega
    obtain ⟨m, hm⟩ : ∃ m, longest lens + 1 - n = m + 1 := ⟨longest lens - n, by omega⟩
    rw [hm] at hsg
    unfold sgo at hsg
    have hb := bt_bd b 1 q
    refine (c_lowN (n := 1) hrd hs (by omega)).mono ?_
    rintro v e w6 ⟨he6, q2, hnum, hrb2⟩
    have he' : Ext (· = rb) w w6 := he.tr he6
    rcases hnum with ⟨hok, rfl⟩ | ⟨herr, rfl⟩
    · obtain ⟨rfl, rfl, hle⟩ := num_ok hok
      rw [if_neg (by omega)] at hsg
      have htk : tk b 1 q 1 = bt b 1 q := by
        show (if (1 : Int) = 1 then tk b 1 q 0 + bt b 1 (q + 0) * 2 ^ 0 else _) = _
        rw [if_pos rfl, Nat.add_zero]
        show (0 : Int) + bt b 1 q * 1 = _
        omega
      have hB := he'.blk h1 hne
      have hcn : cn lens n = (cnt lens n : Int) := by unfold cn; rw [if_neg (by omega)]
      have hcl : cnt lens n ≤ lens.length := cntT_le lens n lens.length
      refine Br.f rfl (Nn.of ⟨by omega, by omega, ?_⟩)
      simp only [add_lit, Int.toNat_natCast, Nat.mul_one, Nat.zero_add]
      refine Ld.of hB (o := 18 + n) (x := fs (cn lens) n) (by rw [List.getElem?_toArray]; exact tc_f _ _ _ _ _ (by omega)) (Nn.of ⟨by omega, by omega, ?_⟩)
      simp only [add_lit, Int.toNat_natCast, Nat.mul_one, Nat.zero_add]
      refine Ld.of hB (o := 2 + n) (x := cn lens n) (by rw [List.getElem?_toArray]; exact tc_n _ _ _ _ _ (by omega)) ?_
      rw [htk, show c * 2 ^ 1 = c * 2 by simp, i64_id (n := c * 2) (by omega), ior_high hc0 (by omega) hb, i64_id (n := 2 * c + bt b 1 q - fs (cn lens) n) (by omega), hcn, hff]
      have hrest : ordR lens (16 - n) n = idxs lens n ++ ordR lens (16 - (n + 1)) (n + 1) := by
        rw [show 16 - n = (16 - (n + 1)) + 1 by omega]
        rfl
      have hil : (idxs lens n).length = cnt lens n := rfl
      rw [hrest, List.length_append, hil] at hlv
      refine Lt.of (Br.dec (fun q3 => ⟨by omega, by omega, ?_⟩) fun q3 => Nn.of ⟨by omega, by omega, ?_⟩)
      · rw [if_pos q3] at hsg
        obtain ⟨z, hz⟩ : ∃ z : Nat, 2 * c + bt b 1 q - 2 * f = (z : Int) := ⟨(2 * c + bt b 1 q - 2 * f).toNat, by omega⟩
        rw [hz] at hsg q3 ⊢
        rw [Int.toNat_natCast] at hsg ⊢
        have hv6 := hv.keepF he6 fun j hj e => by have := h9 j (hown j hj); have e : j = rb := e; omega
        obtain ⟨a, ha, hc⟩ := hv6.get (i := z) (by rw [ordI_len, hrest, List.length_append, hil]; omega)
        rw [ha]
        rw [Nat.mul_one] at hc
        refine Nn.of (Ld.mk hc ⟨he', q + 1, .inl ⟨_, hsg.symm, ?_, rfl⟩, fun _ => hrb2 rfl⟩)
        rw [hrest, ordI_app, getD_app (by rw [ordI_len, hil]; omega), ordI_get]
      · rw [if_neg q3] at hsg
        simp only [add_lit, Int.toNat_natCast, Nat.mul_one, Nat.zero_add]
        refine Ld.of hB (o := 2 + n) (x := cn lens n) (by rw [List.getElem?_toArray]; exact tc_n _ _ _ _ _ (by omega)) ?_
        rw [hcn, Int.toNat_natCast]
        have hn15 : n ≤ 15 := by omega
        have hv6 := hv.keepF he6 fun j hj e => by have := h9 j (hown j hj); have e : j = rb := e; omega
        obtain ⟨d1, d2⟩ := hv6.drop hcap (d := cnt lens n) (by rw [ordI_len, hrest, List.length_append, hil]; omega)
        have hfn : fs (cn lens) (n + 1) = 2 * (fs (cn lens) n + cn lens n) := by
          obtain ⟨x, rfl⟩ : ∃ x, n = x + 1 := ⟨n - 1, by omega⟩
          rfl
        rw [i64_id (n := (n : Int) + 1) (by omega)]
        refine ⟨by omega, by omega, 16 - (n + 1), by omega, n + 1, _, q + 1, _, rfl, by omega, by omega, rfl, ?_, d2, fun j hj => hown j (cut_own hj), ?_, ?_, by omega, ?_, 2 * f + (cnt lens n : Int), ?_, ?_, hrb2 rfl, he'⟩
        · rw [hrest, ordI_app, ← hil, ← ordI_len, List.drop_left] at d1
          rw [ordI_len, hil] at d1
          exact d1
        · rw [hfn, hcn, hff]; omega
        · rw [hfn, hcn, hff]; omega
        · rw [two_pow_succ]; omega
        · rw [hfn, hcn, hff]
        · rw [show longest lens + 1 - (n + 1) = m by omega]; exact hsg
    · have herr' : 8 * b.size ≤ q := by
        unfold num at herr
        split at herr
        · cases herr
        · omega
      rw [if_pos herr'] at hsg
      exact Br.t rfl ⟨he', q, .inr ⟨hsg.symm, by decide⟩, fun h => absurd h (by decide)⟩
  · have hnl : longest lens + 1 - n = 0 := by
      by_cases hh : n ≤ longest lens
      · have := ordR_ne hk (16 - n) n hn1 hh (by omega)
        omega
      · omega
    rw [hnl, sgo_zero] at hsg
    exact ⟨he, q, .inr ⟨hsg.symm, by decide⟩, fun h => absurd h (by decide)⟩
end
end Inf
end Go.Proofs.YtjkoafjnmkchdaaGreatDoor

/- Slices of bytes that own their row: append, the string of them. Condition: sizes below 2^40. -/
namespace Go.Proofs.YtjkoafjnmkchdaaGreatDoor
namespace Sh
set_option linter.unusedVariables false
set_option linter.unusedSimpArgs false

/-- The cells of these bytes. -/
def bcs (l : List UInt8) : List Value := l.map fun b => .int .u8 (b.toNat : Int)
theorem bcs_len (l : List UInt8) : (bcs l).length = l.length := by simp [bcs]
theorem bcs_append (l m : List UInt8) : bcs (l ++ m) = bcs l ++ bcs m := by simp [bcs]
theorem bcs_one (l : List UInt8) : ∀ v ∈ bcs l, v.oneCell' = true := by
  intro v hv
  obtain ⟨b, _, rfl⟩ := List.mem_map.1 hv
  rfl
theorem bcs_get {l : List UInt8} {i : Nat} {b : UInt8} (h : l[i]? = some b) : (bcs l)[i]? = some (.int .u8 (b.toNat : Int)) := by simp [bcs, h]
/-- A slice of bytes that owns its row. -/
def BRow (w : World) (s : Slc) (l : List UInt8) : Prop := Row w s 5 1 (bcs l)
theorem BRow.len {w : World} {s : Slc} {l : List UInt8} (h : BRow w s l) : s.len = l.length := by
  have := h.1
  rw [bcs_len] at this
  omega
theorem BRow.nil (w : World) : BRow w ⟨none, 0, 0⟩ [] := Row.nil w _ _
theorem BRow.keep {F : Nat → Prop} {w w' : World} {s : Slc} {l : List UInt8} (h : BRow w s l) (he : Ext F w w') (hn : ∀ j, s.own j → ¬ F j) : BRow w' s l := Row.keep h he hn
theorem BRow.own_lt {w : World} {s : Slc} {l : List UInt8} (h : BRow w s l) {j : Nat} (hj : s.own j) : j < w.heap.size := Row.own_lt h hj
theorem BRow.get {w : World} {s : Slc} {l : List UInt8} (h : BRow w s l) {i : Nat} {b : UInt8} (hi : l[i]? = some b) : ∃ g, s.p = some ⟨g, 0, none⟩ ∧ w.cell? ⟨g, i, none⟩ = some (.int .u8 (b.toNat : Int)) := Row.cell h (bcs_get hi)

theorem und_bytes : Tryz.prog.underlying 29 = some (.slice 5) := by kernel_rfl
theorem und_byte : Tryz.prog.underlying 5 = some (.int .u8) := by kernel_rfl
theorem und_string : Tryz.prog.underlying 9 = some .string := by kernel_rfl
theorem info_byte' : (match Tryz.prog.info? 5 with
  | some i => Nat.beq i.size 1 && Nat.beq i.bytes 1 && (match i.zero with
    | some z => Nat.beq z.cells.size 1
    | none => false)
  | none => false) = true := by kernel_rfl
theorem info_byte : ∃ i z, Tryz.prog.info? 5 = some i ∧ i.size = 1 ∧ i.bytes = 1 ∧ i.zero = some z ∧ z.cells.size = 1 := by
  have h := info_byte'
  split at h
  · rename_i i hi
    simp only [Bool.and_eq_true] at h
    obtain ⟨⟨h1, h2⟩, h3⟩ := h
    split at h3
    · rename_i z hz
      exact ⟨i, z, hi, Nat.eq_of_beq_eq_true h1, Nat.eq_of_beq_eq_true h2, hz, Nat.eq_of_beq_eq_true h3⟩
    · cases h3
  · cases h

section
variable {w : World} {s : Slc} {ty : TypeId} {l news : List UInt8} {x : Value}
/-- What append answers. -/
def Appended (w : World) (s : Slc) (l : List UInt8) (r : Sem Value) : Prop :=
  ∃ s' w', RunV Tryz.prog r w (Slc.v s') w' ∧ BRow w' s' l ∧ Ext s.own w w' ∧ ∀ j, s'.own j → s.own j ∨ w.heap.size ≤ j
theorem app_any {u : TypeId} (hu : (∃ e', Tryz.prog.underlying u = some (.slice e')) ∨ Tryz.prog.underlying u = some .string)
    (hlen : Builtin.lenOf x = pure news.length) (hcells : ∀ w' : World, w'.heap = w.heap → (Builtin.firstCells 1 news.length x).run Tryz.prog w' = .ok (bcs news).toArray w')
    (own : BRow w s l) (hb : l.length + news.length ≤ 1099511627776) : Appended w s (l ++ news) (Builtin.append_ #[29, u] ty #[Slc.v s, x]) := by
  obtain ⟨i, z, hi, h1, h2, hz, hzs⟩ := info_byte
  have hsl := own.len
  obtain ⟨s', w', hr, ho, _, he, hf⟩ := append_any (P := Tryz.prog) (w := w) (s := s) (t := 29) (u := u) (ty := ty) (e := 5) (i := i) (z := z) (xs := bcs l) (news := bcs news) (x := x) (m := news.length)
    und_bytes hu hi hz (by rw [hzs, h1]) hlen (by rw [h1]; exact hcells) (by rw [bcs_len, h1, Nat.mul_one]) (bcs_one news) (by rw [h1]; exact own) (by rw [h2, hsl]; omega) (by rw [hsl]; omega)
  exact ⟨s', w', hr, by unfold BRow; rw [bcs_append, ← h1]; exact ho, he, hf⟩
theorem app_str (own : BRow w s l) (t : ByteArray) (hb : l.length + t.size ≤ 1099511627776) : Appended w s (l ++ t.data.toList) (Builtin.append_ #[29, 9] ty #[Slc.v s, .string t]) := by
  have hl : t.data.toList.length = t.size := Array.length_toList
  have hx : t.extract 0 t.size = t := by simp
  refine app_any (.inr und_string) (by rw [hl]; rfl) (fun w' _ => ?_) own (by rw [hl]; exact hb)
  show Result.ok _ _ = _
  congr 1
  apply Array.ext'
  rw [hl, hx]
  simp [bcs]
theorem app_row {s2 : Slc} {m : List UInt8} (own : BRow w s l) (h2 : BRow w s2 m) (hb : l.length + m.length ≤ 1099511627776) : Appended w s (l ++ m) (Builtin.append_ #[29, 29] ty #[Slc.v s, Slc.v s2]) := by
  refine app_any (.inl ⟨_, und_bytes⟩) (by rw [← h2.len]; rfl) (fun w' hw' => ?_) own hb
  rcases h2.2 with rfl | ⟨g, cur, hp, hg, hle, hsz, htk⟩
  · have : m = [] := List.eq_nil_of_length_eq_zero (by have := h2.len; simpa using this.symm)
    subst this
    exact run_firstCells_none (P := Tryz.prog) (w := w') 1 0 0 0
  · obtain ⟨p, len, cap⟩ := s2
    simp only at hp
    subst hp
    refine run_firstCells_some w' 1 m.length ⟨g, 0, none⟩ len cap (bcs m) (by rw [bcs_len, Nat.mul_one]) fun j v hj => ?_
    obtain ⟨g', hg', h⟩ := Row.cell h2 hj
    cases hg'
    simpa [World.cell?, hw'] using h
theorem app_one {g : Nat} {b : UInt8} (own : BRow w s l) (hg : Blk w g #[.int .u8 (b.toNat : Int)] 5) (hb : l.length + 1 ≤ 1099511627776) :
    Appended w s (l ++ [b]) (Builtin.append_ #[29, 29] ty #[Slc.v s, Slc.v ⟨some ⟨g, 0, none⟩, 1, 1⟩]) :=
  app_row own (s2 := ⟨some ⟨g, 0, none⟩, 1, 1⟩) (m := [b]) ⟨rfl, .inr ⟨g, _, rfl, hg, Nat.le_refl _, rfl, rfl⟩⟩ hb

theorem strOfNums_bytes (l : List UInt8) : strOfNums (l.map fun b => (b.toNat : Int)) = ⟨l.toArray⟩ := by
  unfold strOfNums
  congr 1
  simp [Function.comp_def]
/-- string(b). -/
theorem str_row (h : BRow w s l) : RunV Tryz.prog (convert 29 9 (Slc.v s)) w (.string ⟨l.toArray⟩) w := by
  rcases h.2 with rfl | ⟨g, cur, hp, hg, hle, hsz, htk⟩
  · have : l = [] := List.eq_nil_of_length_eq_zero (by have := h.len; simpa using this.symm)
    subst this
    exact run_convert_bytes_nil w _ _ und_bytes und_byte 0 0 _ und_string
  · obtain ⟨p, len, cap⟩ := s
    simp only at hp
    subst hp
    have := run_convert_bytes_arg (P := Tryz.prog) w 29 5 und_bytes und_byte g 0 len cap (l.map fun b => (b.toNat : Int)) (by rw [List.length_map]; exact h.len.symm) (fun i hi => by
      have hil : i < l.length := by have := h.len; simp only at this; omega
      obtain ⟨g', hg', hc⟩ := h.get (List.getElem?_eq_getElem hil)
      cases hg'
      rw [Nat.zero_add, hc]
      simp [List.getD, hil]) 9 und_string
    rw [strOfNums_bytes] at this
    exact this
/-- One byte of a row is stored. -/
theorem BRow.set (h : BRow w s l) {i : Nat} (hi : i < l.length) (b : UInt8) : ∃ g, s.p = some ⟨g, 0, none⟩ ∧ CanSt w ⟨g, i, none⟩ ∧ BRow (w.setCell ⟨g, i, none⟩ (.int .u8 (b.toNat : Int))) s (l.set i b) ∧ Ext (· = g) w (w.setCell ⟨g, i, none⟩ (.int .u8 (b.toNat : Int))) := by
  rcases h.2 with rfl | ⟨g, cur, hp, hg, hle, hsz, htk⟩
  · have := h.len
    simp only at this
    omega
  · have hlen := h.len
    have hlt : i < cur.size := by omega
    refine ⟨g, hp, hg.can hlt, ⟨by rw [bcs_len, List.length_set, hlen, Nat.mul_one], .inr ⟨g, _, hp, hg.set i _, hle, by simpa using hsz, ?_⟩⟩, (Ext.refl (· = g) w).set (.inl rfl) _⟩
    rw [Array.toList_setIfInBounds, List.take_set, htk]
    simp [bcs, List.map_set]
end
end Sh
end Go.Proofs.YtjkoafjnmkchdaaGreatDoor

/- The formulas of 28 functions of the program, written by program (gen.py); the kernel checks each. No condition. -/
namespace Go.Proofs.YtjkoafjnmkchdaaGreatDoor
open Sh
set_option linter.unusedVariables false
set_option maxRecDepth 100000

def CD26 (c1 : Addr) (c2 : Addr) (c3 : Addr) (u : Option Value) (w : World) (R : World → Prop) : Prop := CallD Tryz.prog 26 #[.pointer (some c1), .pointer (some c2), .pointer (some c3)] u w R
theorem CD26.mono {c1 : Addr} {c2 : Addr} {c3 : Addr} {u : Option Value} {w : World} {R R' : World → Prop} (h : CD26 c1 c2 c3 u w R) (hr : ∀ w', R w' → R' w') : CD26 c1 c2 c3 u w R' :=
  CallsD.mono h fun _ _ _ ⟨h1, h2, h3⟩ => ⟨h1, h2, hr _ h3⟩
def C27 (holds1 : Bool) (why2 : Int) (w : World) (R : World → Prop) (PR : Value → World → Prop) : Prop :=
  Calls Tryz.prog 27 #[.bool holds1, .int .i64 why2] w fun e w' => (e = .returned (.tuple #[]) ∧ R w') ∨ ∃ v, e = .panicked (onePanic v) ∧ PR v w'
theorem C27.mono {holds1 : Bool} {why2 : Int} {w : World} {R R' : World → Prop} {PR PR' : Value → World → Prop} (h : C27 holds1 why2 w R PR) (hr : ∀ w', R w' → R' w') (hp : ∀ v w', PR v w' → PR' v w') : C27 holds1 why2 w R' PR' :=
  Calls.mono h fun _ _ he => he.elim (fun ⟨he, hR⟩ => .inl ⟨he, hr _ hR⟩) fun ⟨v, he, hP⟩ => .inr ⟨v, he, hp _ _ hP⟩
def C71 (x1 : Int) (why2 : Int) (w : World) (R : Int → World → Prop) (PR : Value → World → Prop) : Prop :=
  Calls Tryz.prog 71 #[.int .i64 x1, .int .i64 why2] w fun e w' => (∃ r0 : Int, e = .returned (.int .i64 r0) ∧ R r0 w') ∨ ∃ v, e = .panicked (onePanic v) ∧ PR v w'
theorem C71.mono {x1 : Int} {why2 : Int} {w : World} {R R' : Int → World → Prop} {PR PR' : Value → World → Prop} (h : C71 x1 why2 w R PR) (hr : ∀ r0 w', R r0 w' → R' r0 w') (hp : ∀ v w', PR v w' → PR' v w') : C71 x1 why2 w R' PR' :=
  Calls.mono h fun _ _ he => he.elim (fun ⟨r0, he, hR⟩ => .inl ⟨r0, he, hr _ _ hR⟩) fun ⟨v, he, hP⟩ => .inr ⟨v, he, hp _ _ hP⟩
def C42 (f1 : Option Addr) (n2 : Int) (w : World) (R : Int → World → Prop) (PR : Value → World → Prop) : Prop :=
  Calls Tryz.prog 42 #[.pointer f1, .int .i64 n2] w fun e w' => (∃ r0 : Int, e = .returned (.int .i64 r0) ∧ R r0 w') ∨ ∃ v, e = .panicked (onePanic v) ∧ PR v w'
theorem C42.mono {f1 : Option Addr} {n2 : Int} {w : World} {R R' : Int → World → Prop} {PR PR' : Value → World → Prop} (h : C42 f1 n2 w R PR) (hr : ∀ r0 w', R r0 w' → R' r0 w') (hp : ∀ v w', PR v w' → PR' v w') : C42 f1 n2 w R' PR' :=
  Calls.mono h fun _ _ he => he.elim (fun ⟨r0, he, hR⟩ => .inl ⟨r0, he, hr _ _ hR⟩) fun ⟨v, he, hP⟩ => .inr ⟨v, he, hp _ _ hP⟩
def C74 (f1 : Option Addr) (n2 : Int) (w : World) (R : World → Prop) (PR : Value → World → Prop) : Prop :=
  Calls Tryz.prog 74 #[.pointer f1, .int .i64 n2] w fun e w' => (e = .returned (.tuple #[]) ∧ R w') ∨ ∃ v, e = .panicked (onePanic v) ∧ PR v w'
theorem C74.mono {f1 : Option Addr} {n2 : Int} {w : World} {R R' : World → Prop} {PR PR' : Value → World → Prop} (h : C74 f1 n2 w R PR) (hr : ∀ w', R w' → R' w') (hp : ∀ v w', PR v w' → PR' v w') : C74 f1 n2 w R' PR' :=
  Calls.mono h fun _ _ he => he.elim (fun ⟨he, hR⟩ => .inl ⟨he, hr _ hR⟩) fun ⟨v, he, hP⟩ => .inr ⟨v, he, hp _ _ hP⟩
def C75 (x1 : ByteArray) (why2 : Int) (w : World) (R : ByteArray → World → Prop) (PR : Value → World → Prop) : Prop :=
  Calls Tryz.prog 75 #[.string x1, .int .i64 why2] w fun e w' => (∃ r0 : ByteArray, e = .returned (.string r0) ∧ R r0 w') ∨ ∃ v, e = .panicked (onePanic v) ∧ PR v w'
theorem C75.mono {x1 : ByteArray} {why2 : Int} {w : World} {R R' : ByteArray → World → Prop} {PR PR' : Value → World → Prop} (h : C75 x1 why2 w R PR) (hr : ∀ r0 w', R r0 w' → R' r0 w') (hp : ∀ v w', PR v w' → PR' v w') : C75 x1 why2 w R' PR' :=
  Calls.mono h fun _ _ he => he.elim (fun ⟨r0, he, hR⟩ => .inl ⟨r0, he, hr _ _ hR⟩) fun ⟨v, he, hP⟩ => .inr ⟨v, he, hp _ _ hP⟩
def C43 (f1 : Option Addr) (w : World) (R : World → Prop) (PR : Value → World → Prop) : Prop :=
  Calls Tryz.prog 43 #[.pointer f1] w fun e w' => (e = .returned (.tuple #[]) ∧ R w') ∨ ∃ v, e = .panicked (onePanic v) ∧ PR v w'
theorem C43.mono {f1 : Option Addr} {w : World} {R R' : World → Prop} {PR PR' : Value → World → Prop} (h : C43 f1 w R PR) (hr : ∀ w', R w' → R' w') (hp : ∀ v w', PR v w' → PR' v w') : C43 f1 w R' PR' :=
  Calls.mono h fun _ _ he => he.elim (fun ⟨he, hR⟩ => .inl ⟨he, hr _ hR⟩) fun ⟨v, he, hP⟩ => .inr ⟨v, he, hp _ _ hP⟩
def C123 (x1 : Int) (y2 : Int) (w : World) (R : Int → Int → World → Prop) : Prop :=
  Calls Tryz.prog 123 #[.int .u64 x1, .int .u64 y2] w fun e w' => ∃ r0 : Int, ∃ r1 : Int, e = .returned (.tuple #[.int .u64 r0, .int .u64 r1]) ∧ R r0 r1 w'
theorem C123.mono {x1 : Int} {y2 : Int} {w : World} {R R' : Int → Int → World → Prop} (h : C123 x1 y2 w R) (hr : ∀ r0 r1 w', R r0 r1 w' → R' r0 r1 w') : C123 x1 y2 w R' :=
  Calls.mono h fun _ _ ⟨r0, r1, he, hR⟩ => ⟨r0, r1, he, hr _ _ _ hR⟩
def C110 (x1 : Int) (y2 : Int) (w : World) (R : Int → Int → World → Prop) : Prop :=
  Calls Tryz.prog 110 #[.int .u64 x1, .int .u64 y2] w fun e w' => ∃ r0 : Int, ∃ r1 : Int, e = .returned (.tuple #[.int .u64 r0, .int .u64 r1]) ∧ R r0 r1 w'
theorem C110.mono {x1 : Int} {y2 : Int} {w : World} {R R' : Int → Int → World → Prop} (h : C110 x1 y2 w R) (hr : ∀ r0 r1 w', R r0 r1 w' → R' r0 r1 w') : C110 x1 y2 w R' :=
  Calls.mono h fun _ _ ⟨r0, r1, he, hR⟩ => ⟨r0, r1, he, hr _ _ _ hR⟩
def C88 (x1 : Slc) (count2 : Int) (w : World) (R : Slc → World → Prop) (PR : Value → World → Prop) : Prop :=
  Calls Tryz.prog 88 #[Slc.v x1, .int .i64 count2] w fun e w' => (∃ r0 : Slc, e = .returned (Slc.v r0) ∧ R r0 w') ∨ ∃ v, e = .panicked (onePanic v) ∧ PR v w'
theorem C88.mono {x1 : Slc} {count2 : Int} {w : World} {R R' : Slc → World → Prop} {PR PR' : Value → World → Prop} (h : C88 x1 count2 w R PR) (hr : ∀ r0 w', R r0 w' → R' r0 w') (hp : ∀ v w', PR v w' → PR' v w') : C88 x1 count2 w R' PR' :=
  Calls.mono h fun _ _ he => he.elim (fun ⟨r0, he, hR⟩ => .inl ⟨r0, he, hr _ _ hR⟩) fun ⟨v, he, hP⟩ => .inr ⟨v, he, hp _ _ hP⟩
def C59 (w : World) (R : Slc → Slc → World → Prop) (PR : Value → World → Prop) : Prop :=
  Calls Tryz.prog 59 #[] w fun e w' => (∃ r0 : Slc, ∃ r1 : Slc, e = .returned (.tuple #[Slc.v r0, Slc.v r1]) ∧ R r0 r1 w') ∨ ∃ v, e = .panicked (onePanic v) ∧ PR v w'
theorem C59.mono {w : World} {R R' : Slc → Slc → World → Prop} {PR PR' : Value → World → Prop} (h : C59 w R PR) (hr : ∀ r0 r1 w', R r0 r1 w' → R' r0 r1 w') (hp : ∀ v w', PR v w' → PR' v w') : C59 w R' PR' :=
  Calls.mono h fun _ _ he => he.elim (fun ⟨r0, r1, he, hR⟩ => .inl ⟨r0, r1, he, hr _ _ _ hR⟩) fun ⟨v, he, hP⟩ => .inr ⟨v, he, hp _ _ hP⟩
def C102 (f1 : Option Addr) (sign2 : Int) (distances3 : Option Addr) (w : World) (R : World → Prop) (PR : Value → World → Prop) : Prop :=
  Calls Tryz.prog 102 #[.pointer f1, .int .i64 sign2, .pointer distances3] w fun e w' => (e = .returned (.tuple #[]) ∧ R w') ∨ ∃ v, e = .panicked (onePanic v) ∧ PR v w'
theorem C102.mono {f1 : Option Addr} {sign2 : Int} {distances3 : Option Addr} {w : World} {R R' : World → Prop} {PR PR' : Value → World → Prop} (h : C102 f1 sign2 distances3 w R PR) (hr : ∀ w', R w' → R' w') (hp : ∀ v w', PR v w' → PR' v w') : C102 f1 sign2 distances3 w R' PR' :=
  Calls.mono h fun _ _ he => he.elim (fun ⟨he, hR⟩ => .inl ⟨he, hr _ hR⟩) fun ⟨v, he, hP⟩ => .inr ⟨v, he, hp _ _ hP⟩
def C77 (f1 : Option Addr) (signs2 : Option Addr) (distances3 : Option Addr) (w : World) (R : World → Prop) (PR : Value → World → Prop) : Prop :=
  Calls Tryz.prog 77 #[.pointer f1, .pointer signs2, .pointer distances3] w fun e w' => (e = .returned (.tuple #[]) ∧ R w') ∨ ∃ v, e = .panicked (onePanic v) ∧ PR v w'
theorem C77.mono {f1 : Option Addr} {signs2 : Option Addr} {distances3 : Option Addr} {w : World} {R R' : World → Prop} {PR PR' : Value → World → Prop} (h : C77 f1 signs2 distances3 w R PR) (hr : ∀ w', R w' → R' w') (hp : ∀ v w', PR v w' → PR' v w') : C77 f1 signs2 distances3 w R' PR' :=
  Calls.mono h fun _ _ he => he.elim (fun ⟨he, hR⟩ => .inl ⟨he, hr _ hR⟩) fun ⟨v, he, hP⟩ => .inr ⟨v, he, hp _ _ hP⟩
def C78 (x1 : Option Addr) (why2 : Int) (w : World) (R : Option Addr → World → Prop) (PR : Value → World → Prop) : Prop :=
  Calls Tryz.prog 78 #[.pointer x1, .int .i64 why2] w fun e w' => (∃ r0 : Option Addr, e = .returned (.pointer r0) ∧ R r0 w') ∨ ∃ v, e = .panicked (onePanic v) ∧ PR v w'
theorem C78.mono {x1 : Option Addr} {why2 : Int} {w : World} {R R' : Option Addr → World → Prop} {PR PR' : Value → World → Prop} (h : C78 x1 why2 w R PR) (hr : ∀ r0 w', R r0 w' → R' r0 w') (hp : ∀ v w', PR v w' → PR' v w') : C78 x1 why2 w R' PR' :=
  Calls.mono h fun _ _ he => he.elim (fun ⟨r0, he, hR⟩ => .inl ⟨r0, he, hr _ _ hR⟩) fun ⟨v, he, hP⟩ => .inr ⟨v, he, hp _ _ hP⟩
def C44 (f1 : Option Addr) (w : World) (R : World → Prop) (PR : Value → World → Prop) : Prop :=
  Calls Tryz.prog 44 #[.pointer f1] w fun e w' => (e = .returned (.tuple #[]) ∧ R w') ∨ ∃ v, e = .panicked (onePanic v) ∧ PR v w'
theorem C44.mono {f1 : Option Addr} {w : World} {R R' : World → Prop} {PR PR' : Value → World → Prop} (h : C44 f1 w R PR) (hr : ∀ w', R w' → R' w') (hp : ∀ v w', PR v w' → PR' v w') : C44 f1 w R' PR' :=
  Calls.mono h fun _ _ he => he.elim (fun ⟨he, hR⟩ => .inl ⟨he, hr _ hR⟩) fun ⟨v, he, hP⟩ => .inr ⟨v, he, hp _ _ hP⟩
def C79 (f1 : Option Addr) (t2 : Option Addr) (n3 : Int) (w : World) (R : Slc → World → Prop) (PR : Value → World → Prop) : Prop :=
  Calls Tryz.prog 79 #[.pointer f1, .pointer t2, .int .i64 n3] w fun e w' => (∃ r0 : Slc, e = .returned (Slc.v r0) ∧ R r0 w') ∨ ∃ v, e = .panicked (onePanic v) ∧ PR v w'
theorem C79.mono {f1 : Option Addr} {t2 : Option Addr} {n3 : Int} {w : World} {R R' : Slc → World → Prop} {PR PR' : Value → World → Prop} (h : C79 f1 t2 n3 w R PR) (hr : ∀ r0 w', R r0 w' → R' r0 w') (hp : ∀ v w', PR v w' → PR' v w') : C79 f1 t2 n3 w R' PR' :=
  Calls.mono h fun _ _ he => he.elim (fun ⟨r0, he, hR⟩ => .inl ⟨r0, he, hr _ _ hR⟩) fun ⟨v, he, hP⟩ => .inr ⟨v, he, hp _ _ hP⟩
def C45 (f1 : Option Addr) (w : World) (R : World → Prop) (PR : Value → World → Prop) : Prop :=
  Calls Tryz.prog 45 #[.pointer f1] w fun e w' => (e = .returned (.tuple #[]) ∧ R w') ∨ ∃ v, e = .panicked (onePanic v) ∧ PR v w'
theorem C45.mono {f1 : Option Addr} {w : World} {R R' : World → Prop} {PR PR' : Value → World → Prop} (h : C45 f1 w R PR) (hr : ∀ w', R w' → R' w') (hp : ∀ v w', PR v w' → PR' v w') : C45 f1 w R' PR' :=
  Calls.mono h fun _ _ he => he.elim (fun ⟨he, hR⟩ => .inl ⟨he, hr _ hR⟩) fun ⟨v, he, hP⟩ => .inr ⟨v, he, hp _ _ hP⟩
def C29 (f1 : Option Addr) (w : World) (R : Bool → World → Prop) (PR : Value → World → Prop) : Prop :=
  Calls Tryz.prog 29 #[.pointer f1] w fun e w' => (∃ r0 : Bool, e = .returned (.bool r0) ∧ R r0 w') ∨ ∃ v, e = .panicked (onePanic v) ∧ PR v w'
theorem C29.mono {f1 : Option Addr} {w : World} {R R' : Bool → World → Prop} {PR PR' : Value → World → Prop} (h : C29 f1 w R PR) (hr : ∀ r0 w', R r0 w' → R' r0 w') (hp : ∀ v w', PR v w' → PR' v w') : C29 f1 w R' PR' :=
  Calls.mono h fun _ _ he => he.elim (fun ⟨r0, he, hR⟩ => .inl ⟨r0, he, hr _ _ hR⟩) fun ⟨v, he, hP⟩ => .inr ⟨v, he, hp _ _ hP⟩
def C14 (s1 : ByteArray) (most2 : Int) (w : World) (R : ByteArray → Int → Int → World → Prop) : Prop :=
  Calls Tryz.prog 14 #[.string s1, .int .i64 most2] w fun e w' => ∃ r0 : ByteArray, ∃ r1 : Int, ∃ r2 : Int, e = .returned (.tuple #[.string r0, .int .i64 r1, .int .i64 r2]) ∧ R r0 r1 r2 w'
theorem C14.mono {s1 : ByteArray} {most2 : Int} {w : World} {R R' : ByteArray → Int → Int → World → Prop} (h : C14 s1 most2 w R) (hr : ∀ r0 r1 r2 w', R r0 r1 r2 w' → R' r0 r1 r2 w') : C14 s1 most2 w R' :=
  Calls.mono h fun _ _ ⟨r0, r1, r2, he, hR⟩ => ⟨r0, r1, r2, he, hr _ _ _ _ hR⟩
def C31 (s1 : ByteArray) (vat2 : Int) (n3 : Int) (w : World) (R : Int → Int → Int → World → Prop) : Prop :=
  Calls Tryz.prog 31 #[.string s1, .int .i64 vat2, .int .i64 n3] w fun e w' => ∃ r0 : Int, ∃ r1 : Int, ∃ r2 : Int, e = .returned (.tuple #[.int .i64 r0, .int .i64 r1, .int .i64 r2]) ∧ R r0 r1 r2 w'
theorem C31.mono {s1 : ByteArray} {vat2 : Int} {n3 : Int} {w : World} {R R' : Int → Int → Int → World → Prop} (h : C31 s1 vat2 n3 w R) (hr : ∀ r0 r1 r2 w', R r0 r1 r2 w' → R' r0 r1 r2 w') : C31 s1 vat2 n3 w R' :=
  Calls.mono h fun _ _ ⟨r0, r1, r2, he, hR⟩ => ⟨r0, r1, r2, he, hr _ _ _ _ hR⟩
def C47 (s1 : ByteArray) (vfrom2 : Int) (out3 : Slc) (most4 : Int) (w : World) (R : Slc → Int → Int → World → Prop) : Prop :=
  Calls Tryz.prog 47 #[.string s1, .int .i64 vfrom2, Slc.v out3, .int .i64 most4] w fun e w' => ∃ r0 : Slc, ∃ r1 : Int, ∃ r2 : Int, e = .returned (.tuple #[Slc.v r0, .int .i64 r1, .int .i64 r2]) ∧ R r0 r1 r2 w'
theorem C47.mono {s1 : ByteArray} {vfrom2 : Int} {out3 : Slc} {most4 : Int} {w : World} {R R' : Slc → Int → Int → World → Prop} (h : C47 s1 vfrom2 out3 most4 w R) (hr : ∀ r0 r1 r2 w', R r0 r1 r2 w' → R' r0 r1 r2 w') : C47 s1 vfrom2 out3 most4 w R' :=
  Calls.mono h fun _ _ ⟨r0, r1, r2, he, hR⟩ => ⟨r0, r1, r2, he, hr _ _ _ _ hR⟩
def C48 (w : World) (R : Slc → Slc → World → Prop) : Prop :=
  Calls Tryz.prog 48 #[] w fun e w' => ∃ r0 : Slc, ∃ r1 : Slc, e = .returned (.tuple #[Slc.v r0, Slc.v r1]) ∧ R r0 r1 w'
theorem C48.mono {w : World} {R R' : Slc → Slc → World → Prop} (h : C48 w R) (hr : ∀ r0 r1 w', R r0 r1 w' → R' r0 r1 w') : C48 w R' :=
  Calls.mono h fun _ _ ⟨r0, r1, he, hR⟩ => ⟨r0, r1, he, hr _ _ _ hR⟩
def C81 (s1 : ByteArray) (vat2 : Int) (lens3 : Slc) (many4 : Int) (w : World) (R : Slc → Int → Int → World → Prop) : Prop :=
  Calls Tryz.prog 81 #[.string s1, .int .i64 vat2, Slc.v lens3, .int .i64 many4] w fun e w' => ∃ r0 : Slc, ∃ r1 : Int, ∃ r2 : Int, e = .returned (.tuple #[Slc.v r0, .int .i64 r1, .int .i64 r2]) ∧ R r0 r1 r2 w'
theorem C81.mono {s1 : ByteArray} {vat2 : Int} {lens3 : Slc} {many4 : Int} {w : World} {R R' : Slc → Int → Int → World → Prop} (h : C81 s1 vat2 lens3 many4 w R) (hr : ∀ r0 r1 r2 w', R r0 r1 r2 w' → R' r0 r1 r2 w') : C81 s1 vat2 lens3 many4 w R' :=
  Calls.mono h fun _ _ ⟨r0, r1, r2, he, hR⟩ => ⟨r0, r1, r2, he, hr _ _ _ _ hR⟩
def C49 (s1 : ByteArray) (vfrom2 : Int) (w : World) (R : Slc → Slc → Int → Int → World → Prop) : Prop :=
  Calls Tryz.prog 49 #[.string s1, .int .i64 vfrom2] w fun e w' => ∃ r0 : Slc, ∃ r1 : Slc, ∃ r2 : Int, ∃ r3 : Int, e = .returned (.tuple #[Slc.v r0, Slc.v r1, .int .i64 r2, .int .i64 r3]) ∧ R r0 r1 r2 r3 w'
theorem C49.mono {s1 : ByteArray} {vfrom2 : Int} {w : World} {R R' : Slc → Slc → Int → Int → World → Prop} (h : C49 s1 vfrom2 w R) (hr : ∀ r0 r1 r2 r3 w', R r0 r1 r2 r3 w' → R' r0 r1 r2 r3 w') : C49 s1 vfrom2 w R' :=
  Calls.mono h fun _ _ ⟨r0, r1, r2, r3, he, hR⟩ => ⟨r0, r1, r2, r3, he, hr _ _ _ _ _ hR⟩
def C84 (s1 : ByteArray) (vat2 : Int) (sign3 : Int) (far4 : Slc) (out5 : Slc) (most6 : Int) (w : World) (R : Slc → Int → Int → World → Prop) : Prop :=
  Calls Tryz.prog 84 #[.string s1, .int .i64 vat2, .int .i64 sign3, Slc.v far4, Slc.v out5, .int .i64 most6] w fun e w' => ∃ r0 : Slc, ∃ r1 : Int, ∃ r2 : Int, e = .returned (.tuple #[Slc.v r0, .int .i64 r1, .int .i64 r2]) ∧ R r0 r1 r2 w'
theorem C84.mono {s1 : ByteArray} {vat2 : Int} {sign3 : Int} {far4 : Slc} {out5 : Slc} {most6 : Int} {w : World} {R R' : Slc → Int → Int → World → Prop} (h : C84 s1 vat2 sign3 far4 out5 most6 w R) (hr : ∀ r0 r1 r2 w', R r0 r1 r2 w' → R' r0 r1 r2 w') : C84 s1 vat2 sign3 far4 out5 most6 w R' :=
  Calls.mono h fun _ _ ⟨r0, r1, r2, he, hR⟩ => ⟨r0, r1, r2, he, hr _ _ _ _ hR⟩
def C51 (s1 : ByteArray) (vat2 : Int) (near3 : Slc) (far4 : Slc) (out5 : Slc) (most6 : Int) (w : World) (R : Slc → Int → Int → World → Prop) : Prop :=
  Calls Tryz.prog 51 #[.string s1, .int .i64 vat2, Slc.v near3, Slc.v far4, Slc.v out5, .int .i64 most6] w fun e w' => ∃ r0 : Slc, ∃ r1 : Int, ∃ r2 : Int, e = .returned (.tuple #[Slc.v r0, .int .i64 r1, .int .i64 r2]) ∧ R r0 r1 r2 w'
theorem C51.mono {s1 : ByteArray} {vat2 : Int} {near3 : Slc} {far4 : Slc} {out5 : Slc} {most6 : Int} {w : World} {R R' : Slc → Int → Int → World → Prop} (h : C51 s1 vat2 near3 far4 out5 most6 w R) (hr : ∀ r0 r1 r2 w', R r0 r1 r2 w' → R' r0 r1 r2 w') : C51 s1 vat2 near3 far4 out5 most6 w R' :=
  Calls.mono h fun _ _ ⟨r0, r1, r2, he, hR⟩ => ⟨r0, r1, r2, he, hr _ _ _ _ hR⟩
def C32 (s1 : ByteArray) (vat2 : Int) (kind3 : Int) (out4 : Slc) (most5 : Int) (w : World) (R : Slc → Int → Int → World → Prop) : Prop :=
  Calls Tryz.prog 32 #[.string s1, .int .i64 vat2, .int .i64 kind3, Slc.v out4, .int .i64 most5] w fun e w' => ∃ r0 : Slc, ∃ r1 : Int, ∃ r2 : Int, e = .returned (.tuple #[Slc.v r0, .int .i64 r1, .int .i64 r2]) ∧ R r0 r1 r2 w'
theorem C32.mono {s1 : ByteArray} {vat2 : Int} {kind3 : Int} {out4 : Slc} {most5 : Int} {w : World} {R R' : Slc → Int → Int → World → Prop} (h : C32 s1 vat2 kind3 out4 most5 w R) (hr : ∀ r0 r1 r2 w', R r0 r1 r2 w' → R' r0 r1 r2 w') : C32 s1 vat2 kind3 out4 most5 w R' :=
  Calls.mono h fun _ _ ⟨r0, r1, r2, he, hR⟩ => ⟨r0, r1, r2, he, hr _ _ _ _ hR⟩
def C16 (s1 : ByteArray) (most2 : Int) (w : World) (R : ByteArray → Int → Int → World → Prop) : Prop :=
  Calls Tryz.prog 16 #[.string s1, .int .i64 most2] w fun e w' => ∃ r0 : ByteArray, ∃ r1 : Int, ∃ r2 : Int, e = .returned (.tuple #[.string r0, .int .i64 r1, .int .i64 r2]) ∧ R r0 r1 r2 w'
theorem C16.mono {s1 : ByteArray} {most2 : Int} {w : World} {R R' : ByteArray → Int → Int → World → Prop} (h : C16 s1 most2 w R) (hr : ∀ r0 r1 r2 w', R r0 r1 r2 w' → R' r0 r1 r2 w') : C16 s1 most2 w R' :=
  Calls.mono h fun _ _ ⟨r0, r1, r2, he, hR⟩ => ⟨r0, r1, r2, he, hr _ _ _ _ hR⟩

/-- foliant/inflate.All$1 -/
def S26_nil (c1 : Addr) (c2 : Addr) (c3 : Addr) (w : World) (R : World → Prop) : Prop :=
  R w
def pl26_nil : Plan := (.block (.seq (.reg .seq) (.cond (.reg .seq) (.seq (.reg .seq) (.cond (.seq (.reg .seq) (.reg (.held [4] (.take 0 (.take 1 (.eff 2 none (.eff 3 none (.eff 4 (some []) .done)))))))) (.seq (.reg .seq) (.reg .seq)))))))
set_option maxRecDepth 100000 in
theorem T26_nil (c1 : Addr) (c2 : Addr) (c3 : Addr) (w : World) (R : World → Prop) (h : S26_nil c1 c2 c3 w R) : CD26 c1 c2 c3 none w R := by
  have e : fnTS Tryz.prog FF MAY pl26_nil Tryz.f26 [.pointer (some c1), .pointer (some c2), .pointer (some c3)] none w R = S26_nil c1 c2 c3 w R := by kernel_rfl
  exact fnS_calls okF okM Tryz.func26 (by kernel_rfl) (by kernel_rfl) (e.mpr h)

/-- foliant/inflate.All$1 -/
def S26_T51 (c1 : Addr) (c2 : Addr) (c3 : Addr) (u4 : Int) (w : World) (R : World → Prop) : Prop :=
  Nw w (.cells #[.int .i64 0] 51) fun vw5 =>
  St vw5 (⟨w.heap.size, 0, none⟩ : Addr) (.int .i64 u4) fun vw6 =>
  ∃ vS7 : World → Prop, vS7 vw6.drew ∧ LdS vS7 (⟨w.heap.size, 0, none⟩ : Addr) (Value.int .i64) fun (x8 : Int) =>
  St vw6.drew c1 (.string ((⟨#[]⟩ : ByteArray))) fun vw9 =>
  vS7 vw9 ∧ St vw9 c2 (.int .i64 0) fun vw10 =>
  vS7 vw10 ∧ St vw10 c3 (.int .i64 x8) fun vw11 =>
  R vw11
def pl26_T51 : Plan := (.block (.seq (.reg .seq) (.cond (.reg .seq) (.seq (.reg .seq) (.cond (.seq (.reg .seq) (.reg (.held [4] (.take 0 (.take 1 (.eff 2 none (.eff 3 none (.eff 4 (some []) .done)))))))) (.seq (.reg .seq) (.reg .seq)))))))
set_option maxRecDepth 100000 in
theorem T26_T51 (c1 : Addr) (c2 : Addr) (c3 : Addr) (u4 : Int) (w : World) (R : World → Prop) (h : S26_T51 c1 c2 c3 u4 w R) : CD26 c1 c2 c3 (some (.iface 51 (.agg #[.int .i64 u4]))) w R := by
  have e : fnTS Tryz.prog FF MAY pl26_T51 Tryz.f26 [.pointer (some c1), .pointer (some c2), .pointer (some c3)] (some (.iface 51 (.agg #[.int .i64 u4]))) w R = S26_T51 c1 c2 c3 u4 w R := by kernel_rfl
  exact fnS_calls okF okM Tryz.func26 (by kernel_rfl) (by kernel_rfl) (e.mpr h)

/-- foliant/inflate.need -/
def S27 (holds1 : Bool) (why2 : Int) (w : World) (R : World → Prop) (PR : Value → World → Prop) : Prop :=
  Br (!holds1) (PR (.iface 51 (.agg #[.int .i64 why2])) w) (R w)
def pl27 : Plan := (.seq (.reg .seq) (.cond (.reg .seq) .leaf))
set_option maxRecDepth 100000 in
theorem T27 (holds1 : Bool) (why2 : Int) (w : World) (R : World → Prop) (PR : Value → World → Prop) (h : S27 holds1 why2 w R PR) : C27 holds1 why2 w R PR := by
  have e : fnT Tryz.prog ⟨FF, MAY, PR⟩ pl27 Tryz.f27 [.bool holds1, .int .i64 why2] w [] (fun _ w => R w) = S27 holds1 why2 w R PR := by kernel_rfl
  exact (fn_callsP okF okM Tryz.func27 (by kernel_rfl) (by kernel_rfl) (e.mpr h)).mono fun _ _ he => he.elim (fun ⟨_, he, hR⟩ => .inl ⟨he, hR⟩) .inr

/-- foliant/inflate.must[int] -/
def S71 (x1 : Int) (why2 : Int) (w : World) (R : Int → World → Prop) (PR : Value → World → Prop) : Prop :=
  C27 (why2 == 0) why2 w (fun vw3 =>
    R x1 vw3) PR
def pl71 : Plan := (.seq (.reg .seq) (.seq (.reg .seq) (.seq (.reg .seq) .leaf)))
set_option maxRecDepth 100000 in
theorem T71 (x1 : Int) (why2 : Int) (w : World) (R : Int → World → Prop) (PR : Value → World → Prop) (h : S71 x1 why2 w R PR) : C71 x1 why2 w R PR := by
  have e : fnT Tryz.prog ⟨FF, MAY, PR⟩ pl71 Tryz.f71 [.int .i64 x1, .int .i64 why2] w [(.one (.int .i64))] (fun s w => R s w) = S71 x1 why2 w R PR := by kernel_rfl
  exact (fn_callsP okF okM Tryz.func71 (by kernel_rfl) (by kernel_rfl) (e.mpr h)).mono fun _ _ he => he.elim (fun ⟨s, he, hR⟩ => .inl ⟨s, he, hR⟩) .inr

/-- (*foliant/inflate.flate).bits -/
def S42 (f1 : Option Addr) (n2 : Int) (w : World) (R : Int → World → Prop) (PR : Value → World → Prop) : Prop :=
  Nn f1 fun a3 =>
  Ld w a3 Value.pointer fun (x4 : Option Addr) =>
  C72 x4 n2 w fun r5 r6 vw7 =>
    C71 r5 r6 vw7 (fun r8 vw9 =>
      R r8 vw9) PR
def pl42 : Plan := (.seq (.reg .seq) (.seq (.reg .seq) .leaf))
set_option maxRecDepth 100000 in
theorem T42 (f1 : Option Addr) (n2 : Int) (w : World) (R : Int → World → Prop) (PR : Value → World → Prop) (h : S42 f1 n2 w R PR) : C42 f1 n2 w R PR := by
  have e : fnT Tryz.prog ⟨FF, MAY, PR⟩ pl42 Tryz.f42 [.pointer f1, .int .i64 n2] w [(.one (.int .i64))] (fun s w => R s w) = S42 f1 n2 w R PR := by kernel_rfl
  exact (fn_callsP okF okM Tryz.func42 (by kernel_rfl) (by kernel_rfl) (e.mpr h)).mono fun _ _ he => he.elim (fun ⟨s, he, hR⟩ => .inl ⟨s, he, hR⟩) .inr

/-- (*foliant/inflate.flate).room -/
def S74 (f1 : Option Addr) (n2 : Int) (w : World) (R : World → Prop) (PR : Value → World → Prop) : Prop :=
  Nn f1 fun a3 =>
  Ld w.drew (a3.add 1) Slc.v fun (x4 : Slc) =>
  Nn f1 fun a5 =>
  Ld w.drew (a5.add 2) (Value.int .i64) fun (x6 : Int) =>
  C27 (decide ((IntKind.i64.wrap (((x4.len : Nat) : Int) + n2)) ≤ x6)) 5 w.drew (fun vw7 =>
    R vw7) PR
def pl74 : Plan := (.reg (.tail 12))
set_option maxRecDepth 100000 in
theorem T74 (f1 : Option Addr) (n2 : Int) (w : World) (R : World → Prop) (PR : Value → World → Prop) (h : S74 f1 n2 w R PR) : C74 f1 n2 w R PR := by
  have e : fnT Tryz.prog ⟨FF, MAY, PR⟩ pl74 Tryz.f74 [.pointer f1, .int .i64 n2] w [] (fun _ w => R w) = S74 f1 n2 w R PR := by kernel_rfl
  exact (fn_callsP okF okM Tryz.func74 (by kernel_rfl) (by kernel_rfl) (e.mpr h)).mono fun _ _ he => he.elim (fun ⟨_, he, hR⟩ => .inl ⟨he, hR⟩) .inr

/-- foliant/inflate.must[string] -/
def S75 (x1 : ByteArray) (why2 : Int) (w : World) (R : ByteArray → World → Prop) (PR : Value → World → Prop) : Prop :=
  C27 (why2 == 0) why2 w (fun vw3 =>
    R x1 vw3) PR
def pl75 : Plan := (.seq (.reg .seq) (.seq (.reg .seq) (.seq (.reg .seq) .leaf)))
set_option maxRecDepth 100000 in
theorem T75 (x1 : ByteArray) (why2 : Int) (w : World) (R : ByteArray → World → Prop) (PR : Value → World → Prop) (h : S75 x1 why2 w R PR) : C75 x1 why2 w R PR := by
  have e : fnT Tryz.prog ⟨FF, MAY, PR⟩ pl75 Tryz.f75 [.string x1, .int .i64 why2] w [(.one .str)] (fun s w => R s w) = S75 x1 why2 w R PR := by kernel_rfl
  exact (fn_callsP okF okM Tryz.func75 (by kernel_rfl) (by kernel_rfl) (e.mpr h)).mono fun _ _ he => he.elim (fun ⟨s, he, hR⟩ => .inl ⟨s, he, hR⟩) .inr

/-- (*foliant/inflate.flate).stored -/
def S43 (f1 : Option Addr) (w : World) (R : World → Prop) (PR : Value → World → Prop) : Prop :=
  Nn f1 fun a2 =>
  Ld w a2 Value.pointer fun (x3 : Option Addr) =>
  C73 x3 w fun vw4 =>
    C42 f1 16 vw4 (fun r5 vw6 =>
      C42 f1 16 vw6 (fun r7 vw8 =>
        C27 (r7 == (IntKind.i64.wrap (65535 - r5))) 3 vw8 (fun vw9 =>
          C74 f1 r5 vw9 (fun vw10 =>
            ∃ vS11 : World → Prop, vS11 vw10.drew ∧ Nn f1 fun a12 =>
            LdS vS11 (a12.add 1) Slc.v fun (x13 : Slc) =>
            Nn f1 fun a14 =>
            LdS vS11 a14 Value.pointer fun (x15 : Option Addr) =>
            C76 x15 r5 vw10.drew fun r16 r17 vw18 =>
              vS11 vw18 ∧ C75 r16 r17 vw18 (fun r19 vw20 =>
                vS11 vw20 ∧ Rn Tryz.prog (Builtin.append_ #[29, 9] 29 #[Slc.v x13, .string r19]) vw20 Slc.v fun (x21 : Slc) vw22 =>
                Nn f1 fun a23 =>
                St vw22 (a23.add 1) (Slc.v x21) fun vw24 =>
                R vw24) PR) PR) PR) PR) PR
def pl43 : Plan := (.seq (.reg .seq) (.seq (.reg .seq) (.seq (.reg .seq) (.seq (.reg .seq) (.reg (.held [14] (.take 0 (.take 1 (.take 2 (.take 3 (.take 4 (.take 5 (.take 6 (.take 7 (.take 8 (.take 9 (.eff 10 none (.take 11 (.take 12 (.eff 13 none (.eff 14 (some [17]) (.take 15 (.take 16 (.eff 17 (some []) .done))))))))))))))))))))))))
set_option maxRecDepth 100000 in
theorem T43 (f1 : Option Addr) (w : World) (R : World → Prop) (PR : Value → World → Prop) (h : S43 f1 w R PR) : C43 f1 w R PR := by
  have e : fnT Tryz.prog ⟨FF, MAY, PR⟩ pl43 Tryz.f43 [.pointer f1] w [] (fun _ w => R w) = S43 f1 w R PR := by kernel_rfl
  exact (fn_callsP okF okM Tryz.func43 (by kernel_rfl) (by kernel_rfl) (e.mpr h)).mono fun _ _ he => he.elim (fun ⟨_, he, hR⟩ => .inl ⟨he, hR⟩) .inr

/-- math/bits.Mul64 -/
def S123 (x1 : Int) (y2 : Int) (w : World) (R : Int → Int → World → Prop) : Prop :=
  Lt (Int.fdiv (IntKind.u64.wrap ((iand .u64 x1 4294967295) * (iand .u64 y2 4294967295))) (2 ^ 32)) fun (x3 : Int) =>
  Lt (IntKind.u64.wrap ((IntKind.u64.wrap ((Int.fdiv x1 (2 ^ 32)) * (iand .u64 y2 4294967295))) + x3)) fun (x4 : Int) =>
  Lt (IntKind.u64.wrap ((iand .u64 x4 4294967295) + (IntKind.u64.wrap ((iand .u64 x1 4294967295) * (Int.fdiv y2 (2 ^ 32)))))) fun (x5 : Int) =>
  Lt (IntKind.u64.wrap ((IntKind.u64.wrap ((Int.fdiv x1 (2 ^ 32)) * (Int.fdiv y2 (2 ^ 32)))) + (Int.fdiv x4 (2 ^ 32)))) fun (x6 : Int) =>
  R (IntKind.u64.wrap (x6 + (Int.fdiv x5 (2 ^ 32)))) (IntKind.u64.wrap (x1 * y2)) w
def pl123 : Plan := (.seq (.reg .seq) (.seq (.reg .seq) (.seq (.reg .seq) (.seq (.reg .seq) (.seq (.reg .seq) (.seq (.reg .seq) (.seq (.reg .seq) (.seq (.reg .seq) (.seq (.reg .seq) (.seq (.reg .seq) (.seq (.reg .seq) (.seq (.reg .seq) .leaf))))))))))))
set_option maxRecDepth 100000 in
theorem T123 (x1 : Int) (y2 : Int) (w : World) (R : Int → Int → World → Prop) (h : S123 x1 y2 w R) : C123 x1 y2 w R := by
  have e : fnT Tryz.prog ⟨FF, MAY, (fun _ _ => False)⟩ pl123 Tryz.f123 [.int .u64 x1, .int .u64 y2] w [(.one (.int .u64)), (.one (.int .u64))] (fun s w => R s.1 s.2 w) = S123 x1 y2 w R := by kernel_rfl
  exact (fn_calls okF okM Tryz.func123 (by kernel_rfl) (by kernel_rfl) (e.mpr h)).mono fun _ _ ⟨s, he, hR⟩ => ⟨s.1, s.2, he, hR⟩

/-- math/bits.Mul -/
def S110 (x1 : Int) (y2 : Int) (w : World) (R : Int → Int → World → Prop) : Prop :=
  C123 x1 y2 w fun r3 r4 vw5 =>
    R r3 r4 vw5
def pl110 : Plan := (.seq (.reg .seq) (.seq (.cond (.seq (.reg .seq) (.seq (.reg .seq) .leaf)) .leaf) (.seq (.reg .seq) (.seq (.reg .seq) .leaf))))
set_option maxRecDepth 100000 in
theorem T110 (x1 : Int) (y2 : Int) (w : World) (R : Int → Int → World → Prop) (h : S110 x1 y2 w R) : C110 x1 y2 w R := by
  have e : fnT Tryz.prog ⟨FF, MAY, (fun _ _ => False)⟩ pl110 Tryz.f110 [.int .u64 x1, .int .u64 y2] w [(.one (.int .u64)), (.one (.int .u64))] (fun s w => R s.1 s.2 w) = S110 x1 y2 w R := by kernel_rfl
  exact (fn_calls okF okM Tryz.func110 (by kernel_rfl) (by kernel_rfl) (e.mpr h)).mono fun _ _ ⟨s, he, hR⟩ => ⟨s.1, s.2, he, hR⟩

def S88L1 (x6 : Slc) (R : Slc → World → Prop) (I12 : Int → World → Prop) (s10 : Int) (vw11 : World) : Prop :=
  Br (decide (s10 < ((x6.len : Nat) : Int))) (0 ≤ s10 ∧ s10 ≤ ((x6.len : Nat) : Int) ∧ 0 ≤ s10 ∧ s10 ≤ ((x6.cap : Nat) : Int) ∧ Rn Tryz.prog (Builtin.copy_ #[76, 76] 3 #[Slc.v (x6.cut 1 ((s10).toNat) x6.len x6.cap), Slc.v (x6.cut 1 0 ((s10).toNat) x6.cap)]) vw11.drew (Value.int .i64) fun (x13 : Int) vw14 =>
    I12 (IntKind.i64.wrap (s10 + x13)) vw14) (R x6 vw11)
/-- slices.Repeat[[]int,int] -/
def S88 (x1 : Slc) (count2 : Int) (w : World) (R : Slc → World → Prop) (PR : Value → World → Prop) : Prop :=
  Br (decide (count2 < 0)) (PR (.iface 9 (.string ((⟨#[99, 97, 110, 110, 111, 116, 32, 98, 101, 32, 110, 101, 103, 97, 116, 105, 118, 101]⟩ : ByteArray)))) w) (C110 (IntKind.u64.wrap ((x1.len : Nat) : Int)) (IntKind.u64.wrap count2) w fun r3 r4 vw5 =>
      Br (decide (r3 > 0)) (PR (.iface 9 (.string ((⟨#[116, 104, 101, 32, 114, 101, 115, 117, 108, 116, 32, 111, 102, 32, 40, 108, 101, 110, 40, 120, 41, 32, 42, 32, 99, 111, 117, 110, 116, 41, 32, 111, 118, 101, 114, 102, 108, 111, 119, 115]⟩ : ByteArray)))) vw5) (Br (decide (r4 > 9223372036854775807)) (PR (.iface 9 (.string ((⟨#[116, 104, 101, 32, 114, 101, 115, 117, 108, 116, 32, 111, 102, 32, 40, 108, 101, 110, 40, 120, 41, 32, 42, 32, 99, 111, 117, 110, 116, 41, 32, 111, 118, 101, 114, 102, 108, 111, 119, 115]⟩ : ByteArray)))) vw5) (Rn Tryz.prog (Instr.makeSlice 76 (.int .i64 (IntKind.i64.wrap r4)) (.int .i64 (IntKind.i64.wrap r4))) vw5 Slc.v fun (x6 : Slc) vw7 =>
          Rn Tryz.prog (Builtin.copy_ #[76, 76] 3 #[Slc.v x6, Slc.v x1]) vw7 (Value.int .i64) fun (x8 : Int) vw9 =>
          Lp (σ := Int) (S88L1 x6 R) x8 vw9)))
def pl88 : Plan := (.seq (.reg .seq) (.seq (.seq (.reg .seq) (.cond (.reg .seq) .leaf)) (.seq (.reg .seq) (.seq (.seq (.reg .seq) (.cond (.reg .seq) .leaf)) (.seq (.reg .seq) (.seq (.reg .seq) (.seq (.block (.loop [(8, (.one (.int .i64)))] [7] (.seq (.seq (.reg .seq) (.cond .leaf .leaf)) (.block (.reg (.held [7] (.take 0 (.take 1 (.take 2 (.take 3 (.take 4 (.take 5 (.take 6 (.eff 7 (some []) (.take 8 (.take 9 .done)))))))))))))))) (.seq (.reg .seq) .leaf))))))))
set_option maxRecDepth 100000 in
theorem T88 (x1 : Slc) (count2 : Int) (w : World) (R : Slc → World → Prop) (PR : Value → World → Prop) (h : S88 x1 count2 w R PR) : C88 x1 count2 w R PR := by
  have e : fnT Tryz.prog ⟨FF, MAY, PR⟩ pl88 Tryz.f88 [Slc.v x1, .int .i64 count2] w [(.one .slc)] (fun s w => R s w) = S88 x1 count2 w R PR := by kernel_rfl
  exact (fn_callsP okF okM Tryz.func88 (by kernel_rfl) (by kernel_rfl) (e.mpr h)).mono fun _ _ he => he.elim (fun ⟨s, he, hR⟩ => .inl ⟨s, he, hR⟩) .inr

def S59L1 (R : Slc → Slc → World → Prop) (PR : Value → World → Prop) (I17 : (Slc × Int) → World → Prop) (s15 : Slc × Int) (vw16 : World) : Prop :=
  Br (decide (s15.2 < 4)) (0 ≤ s15.2 ∧ s15.2 < (4 : Nat) ∧ ∃ x18 : Int × Int, (#[.int .i64 144, .int .i64 8, .int .i64 112, .int .i64 9, .int .i64 24, .int .i64 7, .int .i64 8, .int .i64 8] : Array Value).extract ((s15.2).toNat * 2) ((s15.2).toNat * 2 + 2) = #[.int .i64 (x18.1), .int .i64 (x18.2)] ∧ Nw vw16 (.cells #[.int .i64 0, .int .i64 0] 131) fun vw19 =>
    St vw19 (⟨vw16.heap.size, 0, none⟩ : Addr) (.int .i64 (x18.1)) fun vw20 =>
    St vw20 ((⟨vw16.heap.size, 0, none⟩ : Addr).add 1) (.int .i64 (x18.2)) fun vw21 =>
    Ld vw21 ((⟨vw16.heap.size, 0, none⟩ : Addr).add 1) (Value.int .i64) fun (x22 : Int) =>
    Nw vw21 (.cells #[.int .i64 x22] 3) fun vw23 =>
    Ld vw23 (⟨vw16.heap.size, 0, none⟩ : Addr) (Value.int .i64) fun (x24 : Int) =>
    C88 (⟨some ⟨vw21.heap.size, 0, none⟩, 1, 1⟩ : Slc) x24 vw23 (fun r25 vw26 =>
      Rn Tryz.prog (Builtin.append_ #[76, 76] 76 #[Slc.v s15.1, Slc.v r25]) vw26 Slc.v fun (x27 : Slc) vw28 =>
      I17 (x27, IntKind.i64.wrap (s15.2 + 1)) vw28) PR) (Nw vw16 (.cells #[.int .i64 5] 3) fun vw29 =>
    C88 (⟨some ⟨vw16.heap.size, 0, none⟩, 1, 1⟩ : Slc) 32 vw29 (fun r30 vw31 =>
      R s15.1 r30 vw31) PR)
/-- foliant/inflate.Fixed -/
def S59 (w : World) (R : Slc → Slc → World → Prop) (PR : Value → World → Prop) : Prop :=
  Lp (σ := Slc × Int) (S59L1 R PR) ((⟨none, 0, 0⟩ : Slc), 0) w
def pl59 : Plan := (.seq (.reg .seq) (.seq (.seq (.reg .seq) (.block (.loop [(0, (.one .slc)), (9, (.one (.int .i64)))] [8] (.seq (.reg .seq) (.seq (.cond .leaf .leaf) (.seq (.block (.seq (.reg .seq) (.reg .seq))) (.reg .seq))))))) (.seq (.reg .seq) .leaf)))
set_option maxRecDepth 100000 in
theorem T59 (w : World) (R : Slc → Slc → World → Prop) (PR : Value → World → Prop) (h : S59 w R PR) : C59 w R PR := by
  have e : fnT Tryz.prog ⟨FF, MAY, PR⟩ pl59 Tryz.f59 [] w [(.one .slc), (.one .slc)] (fun s w => R s.1 s.2 w) = S59 w R PR := by kernel_rfl
  exact (fn_callsP okF okM Tryz.func59 (by kernel_rfl) (by kernel_rfl) (e.mpr h)).mono fun _ _ he => he.elim (fun ⟨s, he, hR⟩ => .inl ⟨s.1, s.2, he, hR⟩) .inr

def S102L1 (f1 : Option Addr) (r12 : Int) (r29 : Int) (R : World → Prop) (I37 : Int → World → Prop) (s35 : Int) (vw36 : World) : Prop :=
  Br (decide (s35 < r12)) (∃ vS38 : World → Prop, vS38 vw36.drew ∧ Nn f1 fun a39 =>
    LdS vS38 (a39.add 1) Slc.v fun (x40 : Slc) =>
    Nn f1 fun a41 =>
    LdS vS38 (a41.add 1) Slc.v fun (x42 : Slc) =>
    Nn f1 fun a43 =>
    LdS vS38 (a43.add 1) Slc.v fun (x44 : Slc) =>
    0 ≤ (IntKind.i64.wrap (((x44.len : Nat) : Int) - r29)) ∧ (IntKind.i64.wrap (((x44.len : Nat) : Int) - r29)) < (x42.len : Nat) ∧ Nn x42.p fun a45 =>
    LdS vS38 (a45.add ((IntKind.i64.wrap (((x44.len : Nat) : Int) - r29)).toNat * 1)) (Value.int .u8) fun (x46 : Int) =>
    Nw vw36.drew (.cells #[.int .u8 x46] 5) fun vw47 =>
    vS38 vw47 ∧ Rn Tryz.prog (Builtin.append_ #[29, 29] 29 #[Slc.v x40, Slc.v ((⟨some ⟨vw36.drew.heap.size, 0, none⟩, 1, 1⟩ : Slc))]) vw47 Slc.v fun (x48 : Slc) vw49 =>
    Nn f1 fun a50 =>
    St vw49 (a50.add 1) (Slc.v x48) fun vw51 =>
    I37 (IntKind.i64.wrap (s35 + 1)) vw51) (R vw36)
/-- (*foliant/inflate.flate).copied -/
def S102 (f1 : Option Addr) (sign2 : Int) (distances3 : Option Addr) (w : World) (R : World → Prop) (PR : Value → World → Prop) : Prop :=
  C27 (decide (sign2 ≤ 285)) 13 w (fun vw4 =>
    C118 (IntKind.i64.wrap (sign2 - 257)) vw4 fun r5 vw6 =>
      C42 f1 r5.2 vw6 (fun r7 vw8 =>
        C117 sign2 r7 vw8 fun r9 r10 vw11 =>
          C71 r9 r10 vw11 (fun r12 vw13 =>
            Nn f1 fun a14 =>
            Ld vw13 a14 Value.pointer fun (x15 : Option Addr) =>
            C101 distances3 x15 vw13 fun r16 r17 vw18 =>
              C71 r16 r17 vw18 (fun r19 vw20 =>
                C27 (decide (r19 ≤ 29)) 13 vw20 (fun vw21 =>
                  C120 r19 vw21 fun r22 vw23 =>
                    C42 f1 r22.2 vw23 (fun r24 vw25 =>
                      C119 r19 r24 vw25 fun r26 r27 vw28 =>
                        C71 r26 r27 vw28 (fun r29 vw30 =>
                          Nn f1 fun a31 =>
                          Ld vw30 (a31.add 1) Slc.v fun (x32 : Slc) =>
                          C27 (decide (r29 ≤ ((x32.len : Nat) : Int))) 14 vw30 (fun vw33 =>
                            C74 f1 r12 vw33 (fun vw34 =>
                              Lp (σ := Int) (S102L1 f1 r12 r29 R) 0 vw34) PR) PR) PR) PR) PR) PR) PR) PR) PR
def pl102 : Plan := (.seq (.reg .seq) (.seq (.reg .seq) (.seq (.reg .seq) (.seq (.reg .seq) (.seq (.reg .seq) (.seq (.reg .seq) (.seq (.reg .seq) (.seq (.reg .seq) (.block (.loop [(57, (.one (.int .i64)))] [0, 8, 56] (.seq (.reg .seq) (.seq (.cond .leaf .leaf) (.seq (.block (.reg (.held [19] (.take 0 (.take 1 (.take 2 (.take 3 (.take 4 (.take 5 (.take 6 (.take 7 (.take 8 (.take 9 (.take 10 (.take 11 (.take 12 (.take 13 (.take 14 (.take 15 (.take 16 (.take 17 (.eff 18 none (.eff 19 (some [22]) (.take 20 (.take 21 (.eff 22 (some []) .done)))))))))))))))))))))))))) (.reg .seq))))))))))))))
set_option maxRecDepth 100000 in
theorem T102 (f1 : Option Addr) (sign2 : Int) (distances3 : Option Addr) (w : World) (R : World → Prop) (PR : Value → World → Prop) (h : S102 f1 sign2 distances3 w R PR) : C102 f1 sign2 distances3 w R PR := by
  have e : fnT Tryz.prog ⟨FF, MAY, PR⟩ pl102 Tryz.f102 [.pointer f1, .int .i64 sign2, .pointer distances3] w [] (fun _ w => R w) = S102 f1 sign2 distances3 w R PR := by kernel_rfl
  exact (fn_callsP okF okM Tryz.func102 (by kernel_rfl) (by kernel_rfl) (e.mpr h)).mono fun _ _ he => he.elim (fun ⟨_, he, hR⟩ => .inl ⟨he, hR⟩) .inr

def S77L1 (f1 : Option Addr) (signs2 : Option Addr) (distances3 : Option Addr) (R : World → Prop) (PR : Value → World → Prop) (I6 : Unit → World → Prop) (s4 : Unit) (vw5 : World) : Prop :=
  Nn f1 fun a7 =>
  Ld vw5 a7 Value.pointer fun (x8 : Option Addr) =>
  C101 signs2 x8 vw5 fun r9 r10 vw11 =>
    C71 r9 r10 vw11 (fun r12 vw13 =>
      Br (decide (r12 < 256)) (C74 f1 1 vw13 (fun vw14 =>
          Nn f1 fun a15 =>
          Ld vw14 (a15.add 1) Slc.v fun (x16 : Slc) =>
          Nw vw14 (.cells #[.int .u8 (IntKind.u8.wrap r12)] 5) fun vw17 =>
          Rn Tryz.prog (Builtin.append_ #[29, 29] 29 #[Slc.v x16, Slc.v ((⟨some ⟨vw14.heap.size, 0, none⟩, 1, 1⟩ : Slc))]) vw17 Slc.v fun (x18 : Slc) vw19 =>
          Nn f1 fun a20 =>
          St vw19 (a20.add 1) (Slc.v x18) fun vw21 =>
          I6 () vw21) PR) (Br (r12 == 256) (R vw13) (C102 f1 r12 distances3 vw13 (fun vw22 =>
            I6 () vw22) PR))) PR
/-- (*foliant/inflate.flate).coded -/
def S77 (f1 : Option Addr) (signs2 : Option Addr) (distances3 : Option Addr) (w : World) (R : World → Prop) (PR : Value → World → Prop) : Prop :=
  Lp (σ := Unit) (S77L1 f1 signs2 distances3 R PR) () w
def pl77 : Plan := (.block (.loop [] [0, 1, 2] (.block (.seq (.reg .seq) (.block (.seq (.reg .seq) (.cond (.seq (.reg .seq) (.reg .seq)) (.seq (.reg .seq) (.cond .leaf (.reg .seq))))))))))
set_option maxRecDepth 100000 in
theorem T77 (f1 : Option Addr) (signs2 : Option Addr) (distances3 : Option Addr) (w : World) (R : World → Prop) (PR : Value → World → Prop) (h : S77 f1 signs2 distances3 w R PR) : C77 f1 signs2 distances3 w R PR := by
  have e : fnT Tryz.prog ⟨FF, MAY, PR⟩ pl77 Tryz.f77 [.pointer f1, .pointer signs2, .pointer distances3] w [] (fun _ w => R w) = S77 f1 signs2 distances3 w R PR := by kernel_rfl
  exact (fn_callsP okF okM Tryz.func77 (by kernel_rfl) (by kernel_rfl) (e.mpr h)).mono fun _ _ he => he.elim (fun ⟨_, he, hR⟩ => .inl ⟨he, hR⟩) .inr

/-- foliant/inflate.must[*foliant/code.Table] -/
def S78 (x1 : Option Addr) (why2 : Int) (w : World) (R : Option Addr → World → Prop) (PR : Value → World → Prop) : Prop :=
  C27 (why2 == 0) why2 w (fun vw3 =>
    R x1 vw3) PR
def pl78 : Plan := (.seq (.reg .seq) (.seq (.reg .seq) (.seq (.reg .seq) .leaf)))
set_option maxRecDepth 100000 in
theorem T78 (x1 : Option Addr) (why2 : Int) (w : World) (R : Option Addr → World → Prop) (PR : Value → World → Prop) (h : S78 x1 why2 w R PR) : C78 x1 why2 w R PR := by
  have e : fnT Tryz.prog ⟨FF, MAY, PR⟩ pl78 Tryz.f78 [.pointer x1, .int .i64 why2] w [(.one .ptr)] (fun s w => R s w) = S78 x1 why2 w R PR := by kernel_rfl
  exact (fn_callsP okF okM Tryz.func78 (by kernel_rfl) (by kernel_rfl) (e.mpr h)).mono fun _ _ he => he.elim (fun ⟨s, he, hR⟩ => .inl ⟨s, he, hR⟩) .inr

/-- (*foliant/inflate.flate).fixed -/
def S44 (f1 : Option Addr) (w : World) (R : World → Prop) (PR : Value → World → Prop) : Prop :=
  C59 w (fun r2 r3 vw4 =>
    C60 r2 vw4 fun r5 r6 vw7 =>
      C78 r5 r6 vw7 (fun r8 vw9 =>
        C60 r3 vw9 fun r10 r11 vw12 =>
          C78 r10 r11 vw12 (fun r13 vw14 =>
            C77 f1 r8 r13 vw14 (fun vw15 =>
              R vw15) PR) PR) PR) PR
def pl44 : Plan := (.seq (.reg .seq) (.reg .seq))
set_option maxRecDepth 100000 in
theorem T44 (f1 : Option Addr) (w : World) (R : World → Prop) (PR : Value → World → Prop) (h : S44 f1 w R PR) : C44 f1 w R PR := by
  have e : fnT Tryz.prog ⟨FF, MAY, PR⟩ pl44 Tryz.f44 [.pointer f1] w [] (fun _ w => R w) = S44 f1 w R PR := by kernel_rfl
  exact (fn_callsP okF okM Tryz.func44 (by kernel_rfl) (by kernel_rfl) (e.mpr h)).mono fun _ _ he => he.elim (fun ⟨_, he, hR⟩ => .inl ⟨he, hR⟩) .inr

def S79L1 (f1 : Option Addr) (t2 : Option Addr) (n3 : Int) (R : Slc → World → Prop) (PR : Value → World → Prop) (I8 : Slc → World → Prop) (s6 : Slc) (vw7 : World) : Prop :=
  Br (decide (((s6.len : Nat) : Int) < n3)) (Nn f1 fun a9 =>
    Ld vw7 a9 Value.pointer fun (x10 : Option Addr) =>
    C101 t2 x10 vw7 fun r11 r12 vw13 =>
      C71 r11 r12 vw13 (fun r14 vw15 =>
        Ld vw15 (⟨1, 0, none⟩ : Addr) Value.map fun (x16 : Option Nat) =>
        ∃ x17 : Int × Int, ∃ vok18 : Bool, ∃ vw19 : World, RunV Tryz.prog (Instr.lookup 159 (.map x16) (.int .i64 r14) true) vw15 (.tuple #[.agg #[.int .i64 (x17.1), .int .i64 (x17.2)], .bool vok18]) vw19 ∧ Nw vw19 (.cells #[.int .i64 0, .int .i64 0] 157) fun vw20 =>
        St vw20 (⟨vw19.heap.size, 0, none⟩ : Addr) (.int .i64 (x17.1)) fun vw21 =>
        St vw21 ((⟨vw19.heap.size, 0, none⟩ : Addr).add 1) (.int .i64 (x17.2)) fun vw22 =>
        Br (!vok18) (Nw vw22 (.cells #[.int .i64 r14] 3) fun vw26 =>
          Rn Tryz.prog (Builtin.append_ #[76, 76] 76 #[Slc.v s6, Slc.v ((⟨some ⟨vw22.heap.size, 0, none⟩, 1, 1⟩ : Slc))]) vw26 Slc.v fun (x27 : Slc) vw28 =>
          I8 x27 vw28) (Br (r14 == 16) (C27 (decide (((s6.len : Nat) : Int) > 0)) 3 vw22 (fun vw32 =>
              0 ≤ (IntKind.i64.wrap (((s6.len : Nat) : Int) - 1)) ∧ (IntKind.i64.wrap (((s6.len : Nat) : Int) - 1)) < (s6.len : Nat) ∧ Nn s6.p fun a33 =>
              Ld vw32 (a33.add ((IntKind.i64.wrap (((s6.len : Nat) : Int) - 1)).toNat * 1)) (Value.int .i64) fun (x34 : Int) =>
              ∃ vS35 : World → Prop, vS35 vw32.drew ∧ LdS vS35 (⟨vw19.heap.size, 0, none⟩ : Addr) (Value.int .i64) fun (x36 : Int) =>
              LdS vS35 ((⟨vw19.heap.size, 0, none⟩ : Addr).add 1) (Value.int .i64) fun (x37 : Int) =>
              C42 f1 x37 vw32.drew (fun r38 vw39 =>
                vS35 vw39 ∧ C27 (decide ((IntKind.i64.wrap (((s6.len : Nat) : Int) + (IntKind.i64.wrap (x36 + r38)))) ≤ n3)) 3 vw39 (fun vw40 =>
                  Nw vw40 (.cells #[.int .i64 x34] 3) fun vw41 =>
                  C88 (⟨some ⟨vw40.heap.size, 0, none⟩, 1, 1⟩ : Slc) (IntKind.i64.wrap (x36 + r38)) vw41 (fun r42 vw43 =>
                    Rn Tryz.prog (Builtin.append_ #[76, 76] 76 #[Slc.v s6, Slc.v r42]) vw43 Slc.v fun (x44 : Slc) vw45 =>
                    I8 x44 vw45) PR) PR) PR) PR) (∃ vS46 : World → Prop, vS46 vw22.drew ∧ LdS vS46 (⟨vw19.heap.size, 0, none⟩ : Addr) (Value.int .i64) fun (x47 : Int) =>
            LdS vS46 ((⟨vw19.heap.size, 0, none⟩ : Addr).add 1) (Value.int .i64) fun (x48 : Int) =>
            C42 f1 x48 vw22.drew (fun r49 vw50 =>
              vS46 vw50 ∧ C27 (decide ((IntKind.i64.wrap (((s6.len : Nat) : Int) + (IntKind.i64.wrap (x47 + r49)))) ≤ n3)) 3 vw50 (fun vw51 =>
                Nw vw51 (.cells #[.int .i64 0] 3) fun vw52 =>
                C88 (⟨some ⟨vw51.heap.size, 0, none⟩, 1, 1⟩ : Slc) (IntKind.i64.wrap (x47 + r49)) vw52 (fun r53 vw54 =>
                  Rn Tryz.prog (Builtin.append_ #[76, 76] 76 #[Slc.v s6, Slc.v r53]) vw54 Slc.v fun (x55 : Slc) vw56 =>
                  I8 x55 vw56) PR) PR) PR))) PR) (R s6 vw7)
/-- (*foliant/inflate.flate).lengths -/
def S79 (f1 : Option Addr) (t2 : Option Addr) (n3 : Int) (w : World) (R : Slc → World → Prop) (PR : Value → World → Prop) : Prop :=
  Rn Tryz.prog (Instr.makeSlice 76 (.int .i64 0) (.int .i64 n3)) w Slc.v fun (x4 : Slc) vw5 =>
  Lp (σ := Slc) (S79L1 f1 t2 n3 R PR) x4 vw5
def pl79 : Plan := (.seq (.reg .seq) (.seq (.reg .seq) (.seq (.block (.loop [(7, (.one .slc))] [0, 1, 2] (.seq (.seq (.reg .seq) (.cond .leaf .leaf)) (.block (.seq (.reg .seq) (.seq (.reg .seq) (.seq (.seq (.reg .seq) (.cond (.seq (.reg .seq) .leaf) .leaf)) (.seq (.reg .seq) (.seq (.seq (.reg .seq) (.cond (.seq (.reg .seq) (.reg .seq)) .leaf)) (.seq (.reg (.held [] (.take 0 (.take 1 (.take 2 (.take 3 (.take 4 (.eff 5 none (.take 6 (.take 7 .done)))))))))) (.seq (.reg .seq) (.reg .seq)))))))))))) (.seq (.reg .seq) .leaf))))
set_option maxRecDepth 100000 in
theorem T79 (f1 : Option Addr) (t2 : Option Addr) (n3 : Int) (w : World) (R : Slc → World → Prop) (PR : Value → World → Prop) (h : S79 f1 t2 n3 w R PR) : C79 f1 t2 n3 w R PR := by
  have e : fnT Tryz.prog ⟨FF, MAY, PR⟩ pl79 Tryz.f79 [.pointer f1, .pointer t2, .int .i64 n3] w [(.one .slc)] (fun s w => R s w) = S79 f1 t2 n3 w R PR := by kernel_rfl
  exact (fn_callsP okF okM Tryz.func79 (by kernel_rfl) (by kernel_rfl) (e.mpr h)).mono fun _ _ he => he.elim (fun ⟨s, he, hR⟩ => .inl ⟨s, he, hR⟩) .inr

def S45L1 (f1 : Option Addr) (r2 : Int) (r5 : Int) (vw7 : World) (r20 : Int) (x22 : Int) (R : World → Prop) (PR : Value → World → Prop) (I25 : Int → World → Prop) (s23 : Int) (vw24 : World) : Prop :=
  Br (decide (s23 < x22)) (0 ≤ s23 ∧ s23 < (((⟨some (⟨0, 0, none⟩ : Addr), 19, 19⟩ : Slc).cut 1 0 ((IntKind.i64.wrap (r20 + 4)).toNat) 19).len : Nat) ∧ Nn ((⟨some (⟨0, 0, none⟩ : Addr), 19, 19⟩ : Slc).cut 1 0 ((IntKind.i64.wrap (r20 + 4)).toNat) 19).p fun a26 =>
    Ld vw24 (a26.add ((s23).toNat * 1)) (Value.int .i64) fun (x27 : Int) =>
    C42 f1 3 vw24 (fun r28 vw29 =>
      0 ≤ x27 ∧ x27 < (19 : Nat) ∧ St vw29 ((⟨vw7.heap.size, 0, none⟩ : Addr).add ((x27).toNat * 1)) (.int .i64 r28) fun vw30 =>
      I25 (IntKind.i64.wrap (s23 + 1)) vw30) PR) (C60 ((⟨some (⟨vw7.heap.size, 0, none⟩ : Addr), 19, 19⟩ : Slc).cut 1 0 19 19) vw24 fun r31 r32 vw33 =>
      C78 r31 r32 vw33 (fun r34 vw35 =>
        C79 f1 r34 (IntKind.i64.wrap ((IntKind.i64.wrap (r2 + 257)) + (IntKind.i64.wrap (r5 + 1)))) vw35 (fun r36 vw37 =>
          0 ≤ (256 : Int) ∧ (256 : Int) < (r36.len : Nat) ∧ Nn r36.p fun a38 =>
          Ld vw37 (a38.add (((256 : Int)).toNat * 1)) (Value.int .i64) fun (x39 : Int) =>
          C27 (decide (x39 > 0)) 13 vw37 (fun vw40 =>
            0 ≤ (IntKind.i64.wrap (r2 + 257)) ∧ (IntKind.i64.wrap (r2 + 257)) ≤ ((r36.cap : Nat) : Int) ∧ 0 ≤ (IntKind.i64.wrap (r2 + 257)) ∧ (IntKind.i64.wrap (r2 + 257)) ≤ ((r36.len : Nat) : Int) ∧ C60 (r36.cut 1 0 ((IntKind.i64.wrap (r2 + 257)).toNat) r36.cap) vw40.drew fun r41 r42 vw43 =>
              C78 r41 r42 vw43 (fun r44 vw45 =>
                C60 (r36.cut 1 ((IntKind.i64.wrap (r2 + 257)).toNat) r36.len r36.cap) vw45 fun r46 r47 vw48 =>
                  C78 r46 r47 vw48 (fun r49 vw50 =>
                    C77 f1 r44 r49 vw50 (fun vw51 =>
                      R vw51) PR) PR) PR) PR) PR) PR)
/-- (*foliant/inflate.flate).dynamic -/
def S45 (f1 : Option Addr) (w : World) (R : World → Prop) (PR : Value → World → Prop) : Prop :=
  C42 f1 5 w (fun r2 vw3 =>
    C27 (decide ((IntKind.i64.wrap (r2 + 257)) ≤ 286)) 3 vw3 (fun vw4 =>
      C42 f1 5 vw4 (fun r5 vw6 =>
        C27 (decide ((IntKind.i64.wrap (r5 + 1)) ≤ 30)) 3 vw6 (fun vw7 =>
          Nw vw7 (.cells #[.int .i64 0, .int .i64 0, .int .i64 0, .int .i64 0, .int .i64 0, .int .i64 0, .int .i64 0, .int .i64 0, .int .i64 0, .int .i64 0, .int .i64 0, .int .i64 0, .int .i64 0, .int .i64 0, .int .i64 0, .int .i64 0, .int .i64 0, .int .i64 0, .int .i64 0] 108) fun vw8 =>
          C42 f1 4 vw8 (fun r20 vw21 =>
            0 ≤ (IntKind.i64.wrap (r20 + 4)) ∧ (IntKind.i64.wrap (r20 + 4)) ≤ ((19 : Nat) : Int) ∧ Lt (((((⟨some (⟨0, 0, none⟩ : Addr), 19, 19⟩ : Slc).cut 1 0 ((IntKind.i64.wrap (r20 + 4)).toNat) 19).len : Nat) : Int)) fun (x22 : Int) =>
            Lp (σ := Int) (S45L1 f1 r2 r5 vw7 r20 x22 R PR) 0 vw21) PR) PR) PR) PR) PR
def pl45 : Plan := (.seq (.reg .seq) (.seq (.reg .seq) (.seq (.reg .seq) (.seq (.reg .seq) (.seq (.reg .seq) (.seq (.seq (.reg .seq) (.block (.loop [(25, (.one (.int .i64)))] [0, 2, 3, 4, 23, 24] (.seq (.reg .seq) (.seq (.cond .leaf .leaf) (.seq (.block (.seq (.reg .seq) (.reg .seq))) (.reg .seq))))))) (.seq (.reg .seq) (.seq (.reg .seq) (.reg (.held [4] (.take 0 (.take 1 (.take 2 (.take 3 (.take 8 (.take 9 (.take 10 (.eff 4 (some [7]) (.take 5 (.take 6 (.eff 7 (some [11]) (.eff 11 (some [14]) (.take 12 (.take 13 (.eff 14 (some [15]) (.eff 15 (some []) .done))))))))))))))))))))))))))
set_option maxRecDepth 100000 in
theorem T45 (f1 : Option Addr) (w : World) (R : World → Prop) (PR : Value → World → Prop) (h : S45 f1 w R PR) : C45 f1 w R PR := by
  have e : fnT Tryz.prog ⟨FF, MAY, PR⟩ pl45 Tryz.f45 [.pointer f1] w [] (fun _ w => R w) = S45 f1 w R PR := by kernel_rfl
  exact (fn_callsP okF okM Tryz.func45 (by kernel_rfl) (by kernel_rfl) (e.mpr h)).mono fun _ _ he => he.elim (fun ⟨_, he, hR⟩ => .inl ⟨he, hR⟩) .inr

/-- (*foliant/inflate.flate).block -/
def S29 (f1 : Option Addr) (w : World) (R : Bool → World → Prop) (PR : Value → World → Prop) : Prop :=
  C42 f1 1 w (fun r2 vw3 =>
    C42 f1 2 vw3 (fun r4 vw5 =>
      Br (r4 == 0) (C43 f1 vw5 (fun vw6 =>
          R (r2 == 1) vw6) PR) (Br (r4 == 1) (C44 f1 vw5 (fun vw7 =>
            R (r2 == 1) vw7) PR) (Br (r4 == 2) (C45 f1 vw5 (fun vw8 =>
              R (r2 == 1) vw8) PR) (C27 false 3 vw5 (fun vw9 =>
              R (r2 == 1) vw9) PR)))) PR) PR
def pl29 : Plan := (.seq (.reg .seq) (.seq (.reg .seq) (.seq (.seq (.reg .seq) (.block (.seq (.reg .seq) (.cond (.reg .seq) (.seq (.reg .seq) (.cond (.reg .seq) (.seq (.reg .seq) (.cond (.reg .seq) (.reg .seq))))))))) (.seq (.reg .seq) .leaf))))
set_option maxRecDepth 100000 in
theorem T29 (f1 : Option Addr) (w : World) (R : Bool → World → Prop) (PR : Value → World → Prop) (h : S29 f1 w R PR) : C29 f1 w R PR := by
  have e : fnT Tryz.prog ⟨FF, MAY, PR⟩ pl29 Tryz.f29 [.pointer f1] w [(.one .bool)] (fun s w => R s w) = S29 f1 w R PR := by kernel_rfl
  exact (fn_callsP okF okM Tryz.func29 (by kernel_rfl) (by kernel_rfl) (e.mpr h)).mono fun _ _ he => he.elim (fun ⟨s, he, hR⟩ => .inl ⟨s, he, hR⟩) .inr

def S14P (w : World) (vw3 : World) (vw4 : World) (R : ByteArray → Int → Int → World → Prop) (x7 : Value) (vw6 : World) : Prop :=
  CD26 (⟨w.heap.size, 0, none⟩ : Addr) (⟨vw3.heap.size, 0, none⟩ : Addr) (⟨vw4.heap.size, 0, none⟩ : Addr) (some x7) vw6 fun vw8 =>
    Ld vw8 (⟨w.heap.size, 0, none⟩ : Addr) Value.string fun (x9 : ByteArray) =>
    Ld vw8 (⟨vw3.heap.size, 0, none⟩ : Addr) (Value.int .i64) fun (x10 : Int) =>
    Ld vw8 (⟨vw4.heap.size, 0, none⟩ : Addr) (Value.int .i64) fun (x11 : Int) =>
    R x9 x10 x11 vw8
def S14L1 (w : World) (vw3 : World) (vw4 : World) (vw14 : World) (R : ByteArray → Int → Int → World → Prop) (I23 : Unit → World → Prop) (s21 : Unit) (vw22 : World) : Prop :=
  C29 (some (⟨vw14.heap.size, 0, none⟩ : Addr)) vw22 (fun r24 vw25 =>
    Br (!r24) (I23 () vw25) (∃ vS26 : World → Prop, vS26 vw25.drew ∧ Nn (some (⟨vw14.heap.size, 0, none⟩ : Addr)) fun a27 =>
      LdS vS26 (a27.add 1) Slc.v fun (x28 : Slc) =>
      Nn (some (⟨vw14.heap.size, 0, none⟩ : Addr)) fun a29 =>
      LdS vS26 a29 Value.pointer fun (x30 : Option Addr) =>
      (Rn Tryz.prog (convert 29 9 (Slc.v x28)) vw25.drew Value.string fun (x31 : ByteArray) vw32 =>
        vS26 vw32 ∧ C30 x30 vw32 fun r33 vw34 =>
          vS26 vw34 ∧ St vw34 (⟨w.heap.size, 0, none⟩ : Addr) (.string x31) fun vw35 =>
          St vw35 (⟨vw3.heap.size, 0, none⟩ : Addr) (.int .i64 r33) fun vw36 =>
          St vw36 (⟨vw4.heap.size, 0, none⟩ : Addr) (.int .i64 0) fun vw37 =>
          CD26 (⟨w.heap.size, 0, none⟩ : Addr) (⟨vw3.heap.size, 0, none⟩ : Addr) (⟨vw4.heap.size, 0, none⟩ : Addr) none vw37 fun vw38 =>
            Ld vw38 (⟨w.heap.size, 0, none⟩ : Addr) Value.string fun (x39 : ByteArray) =>
            Ld vw38 (⟨vw3.heap.size, 0, none⟩ : Addr) (Value.int .i64) fun (x40 : Int) =>
            Ld vw38 (⟨vw4.heap.size, 0, none⟩ : Addr) (Value.int .i64) fun (x41 : Int) =>
            R x39 x40 x41 vw38) ∧
      (C30 x30 vw25.drew fun r42 vw43 =>
          vS26 vw43 ∧ Rn Tryz.prog (convert 29 9 (Slc.v x28)) vw43 Value.string fun (x44 : ByteArray) vw45 =>
          vS26 vw45 ∧ St vw45 (⟨w.heap.size, 0, none⟩ : Addr) (.string x44) fun vw46 =>
          St vw46 (⟨vw3.heap.size, 0, none⟩ : Addr) (.int .i64 r42) fun vw47 =>
          St vw47 (⟨vw4.heap.size, 0, none⟩ : Addr) (.int .i64 0) fun vw48 =>
          CD26 (⟨w.heap.size, 0, none⟩ : Addr) (⟨vw3.heap.size, 0, none⟩ : Addr) (⟨vw4.heap.size, 0, none⟩ : Addr) none vw48 fun vw49 =>
            Ld vw49 (⟨w.heap.size, 0, none⟩ : Addr) Value.string fun (x50 : ByteArray) =>
            Ld vw49 (⟨vw3.heap.size, 0, none⟩ : Addr) (Value.int .i64) fun (x51 : Int) =>
            Ld vw49 (⟨vw4.heap.size, 0, none⟩ : Addr) (Value.int .i64) fun (x52 : Int) =>
            R x50 x51 x52 vw49))) (S14P w vw3 vw4 R)
/-- foliant/inflate.All -/
def S14 (s1 : ByteArray) (most2 : Int) (w : World) (R : ByteArray → Int → Int → World → Prop) : Prop :=
  Nw w (.cells #[.string ((⟨#[]⟩ : ByteArray))] 9) fun vw3 =>
  Nw vw3 (.cells #[.int .i64 0] 3) fun vw4 =>
  Nw vw4 (.cells #[.int .i64 0] 23) fun vw5 =>
  C27 (decide (most2 ≥ 0)) 1 vw5 (fun vw12 =>
    C28 s1 vw12 fun r13 vw14 =>
      Nw vw14 (.cells #[.pointer r13, Slc.v ((⟨none, 0, 0⟩ : Slc)), .int .i64 (if 1048576 < most2 then 1048576 else most2)] 57) fun vw15 =>
      Lp (σ := Unit) (S14L1 w vw3 vw4 vw14 R) () vw15) (S14P w vw3 vw4 R)
def pl14 : DPlan := (.pre (.reg .seq) (.here [4, 5, 6] (.seq (.reg .seq) (.seq (.reg .seq) (.seq (.block (.loop [] [4, 5, 6, 7] (.seq (.seq (.reg .seq) (.cond .leaf .leaf)) (.block .leaf)))) (.seq (.reg (.held [10] (.take 0 (.take 1 (.take 2 (.take 3 (.take 5 (.take 6 (.take 7 (.take 8 (.effs 4 none (.eff 9 none (.eff 10 (some [11]) (.eff 11 (some [12]) (.eff 12 (some []) .done)))) (.eff 9 none (.eff 4 none (.eff 10 (some [11]) (.eff 11 (some [12]) (.eff 12 (some []) .done)))))))))))))))) .leaf))))))
set_option maxRecDepth 100000 in
theorem T14 (s1 : ByteArray) (most2 : Int) (w : World) (R : ByteArray → Int → Int → World → Prop) (h : S14 s1 most2 w R) : C14 s1 most2 w R := by
  have e : fnTD Tryz.prog FF MAY (fun _ _ => False) pl14 Tryz.f14 [.string s1, .int .i64 most2] w [(.one .str), (.one (.int .i64)), (.one (.int .i64))] (fun s w => R s.1 s.2.1 s.2.2 w) = S14 s1 most2 w R := by kernel_rfl
  exact (fnD_calls okF okM Tryz.func14 (by kernel_rfl) (by kernel_rfl) (e.mpr h)).mono fun _ _ ⟨s, he, hR⟩ => ⟨s.1, s.2.1, s.2.2, he, hR⟩

def S31L1 (s1 : ByteArray) (vat2 : Int) (n3 : Int) (R : Int → Int → Int → World → Prop) (I12 : (Int × Int) → World → Prop) (s10 : Int × Int) (vw11 : World) : Prop :=
  Br (decide (s10.2 < n3)) (C46 s1 (IntKind.i64.wrap (vat2 + s10.2)) vw11 fun r13 vw14 =>
      Br (decide (r13 < 0)) (R 0 0 4 vw14) (0 ≤ (IntKind.u64.wrap s10.2) ∧ Lt (IntKind.i64.wrap (s10.1 + (IntKind.i64.wrap (r13 * 2 ^ (min (IntKind.u64.wrap s10.2).toNat 64))))) fun (x15 : Int) =>
        I12 (x15, IntKind.i64.wrap (s10.2 + 1)) vw14)) (R s10.1 (IntKind.i64.wrap (vat2 + n3)) 0 vw11)
/-- foliant/foliantref11.number -/
def S31 (s1 : ByteArray) (vat2 : Int) (n3 : Int) (w : World) (R : Int → Int → Int → World → Prop) : Prop :=
  Lp (σ := Int × Int) (S31L1 s1 vat2 n3 R) (0, 0) w
def pl31 : Plan := (.seq (.reg .seq) (.seq (.reg .seq) (.seq (.seq (.reg .seq) (.block (.loop [(9, (.one (.int .i64))), (10, (.one (.int .i64)))] [0, 1, 2] (.seq (.seq (.reg .seq) (.cond .leaf .leaf)) (.seq (.block (.seq (.reg .seq) (.seq (.seq (.reg .seq) (.cond (.seq (.reg .seq) .leaf) .leaf)) (.reg .seq)))) (.reg .seq)))))) (.seq (.reg .seq) .leaf))))
set_option maxRecDepth 100000 in
theorem T31 (s1 : ByteArray) (vat2 : Int) (n3 : Int) (w : World) (R : Int → Int → Int → World → Prop) (h : S31 s1 vat2 n3 w R) : C31 s1 vat2 n3 w R := by
  have e : fnT Tryz.prog ⟨FF, MAY, (fun _ _ => False)⟩ pl31 Tryz.f31 [.string s1, .int .i64 vat2, .int .i64 n3] w [(.one (.int .i64)), (.one (.int .i64)), (.one (.int .i64))] (fun s w => R s.1 s.2.1 s.2.2 w) = S31 s1 vat2 n3 w R := by kernel_rfl
  exact (fn_calls okF okM Tryz.func31 (by kernel_rfl) (by kernel_rfl) (e.mpr h)).mono fun _ _ ⟨s, he, hR⟩ => ⟨s.1, s.2.1, s.2.2, he, hR⟩

/-- foliant/foliantref11.stored -/
def S47 (s1 : ByteArray) (vfrom2 : Int) (out3 : Slc) (most4 : Int) (w : World) (R : Slc → Int → Int → World → Prop) : Prop :=
  C31 s1 (IntKind.i64.wrap ((IntKind.i64.wrap (Int.tdiv (IntKind.i64.wrap (vfrom2 + 7)) 8)) * 8)) 16 w fun r5 r6 r7 vw8 =>
    Br (r7 != 0) (R (⟨none, 0, 0⟩ : Slc) 0 r7 vw8) (C31 s1 r6 16 vw8 fun r9 r10 r11 vw12 =>
        Br (r11 != 0) (R (⟨none, 0, 0⟩ : Slc) 0 r11 vw12) (Br (r9 != (IntKind.i64.wrap (65535 - r5))) (R (⟨none, 0, 0⟩ : Slc) 0 3 vw12) (Br (decide (r5 > (IntKind.i64.wrap (most4 - ((out3.len : Nat) : Int))))) (R (⟨none, 0, 0⟩ : Slc) 0 5 vw12) (Lt (decide (r5 > (IntKind.i64.wrap ((((s1).size : Nat) : Int) - (IntKind.i64.wrap (Int.tdiv r10 8)))))) fun (x14 : Bool) =>
              Br x14 (R (⟨none, 0, 0⟩ : Slc) 0 4 vw12) (0 ≤ (IntKind.i64.wrap ((IntKind.i64.wrap (Int.tdiv r10 8)) + r5)) ∧ (IntKind.i64.wrap ((IntKind.i64.wrap (Int.tdiv r10 8)) + r5)) ≤ (((s1).size : Nat) : Int) ∧ 0 ≤ (IntKind.i64.wrap (Int.tdiv r10 8)) ∧ (IntKind.i64.wrap (Int.tdiv r10 8)) ≤ (((IntKind.i64.wrap ((IntKind.i64.wrap (Int.tdiv r10 8)) + r5)).toNat : Nat) : Int) ∧ Lt (s1.extract ((IntKind.i64.wrap (Int.tdiv r10 8)).toNat) ((IntKind.i64.wrap ((IntKind.i64.wrap (Int.tdiv r10 8)) + r5)).toNat)) fun (x15 : ByteArray) =>
                Rn Tryz.prog (Builtin.append_ #[29, 9] 29 #[Slc.v out3, .string x15]) vw12 Slc.v fun (x16 : Slc) vw17 =>
                R x16 (IntKind.i64.wrap (r10 + (IntKind.i64.wrap (8 * r5)))) 0 vw17)))))
def pl47 : Plan := (.seq (.reg .seq) (.seq (.reg .seq) (.seq (.reg .seq) (.seq (.seq (.reg .seq) (.cond (.seq (.reg .seq) .leaf) .leaf)) (.seq (.reg .seq) (.seq (.seq (.reg .seq) (.cond (.seq (.reg .seq) .leaf) .leaf)) (.seq (.seq (.reg .seq) (.cond (.seq (.reg .seq) .leaf) .leaf)) (.seq (.seq (.reg .seq) (.cond (.seq (.reg .seq) .leaf) .leaf)) (.seq (.seq (.reg .seq) (.cond (.seq (.reg .seq) .leaf) .leaf)) (.seq (.reg .seq) .leaf))))))))))
set_option maxRecDepth 100000 in
theorem T47 (s1 : ByteArray) (vfrom2 : Int) (out3 : Slc) (most4 : Int) (w : World) (R : Slc → Int → Int → World → Prop) (h : S47 s1 vfrom2 out3 most4 w R) : C47 s1 vfrom2 out3 most4 w R := by
  have e : fnT Tryz.prog ⟨FF, MAY, (fun _ _ => False)⟩ pl47 Tryz.f47 [.string s1, .int .i64 vfrom2, Slc.v out3, .int .i64 most4] w [(.one .slc), (.one (.int .i64)), (.one (.int .i64))] (fun s w => R s.1 s.2.1 s.2.2 w) = S47 s1 vfrom2 out3 most4 w R := by kernel_rfl
  exact (fn_calls okF okM Tryz.func47 (by kernel_rfl) (by kernel_rfl) (e.mpr h)).mono fun _ _ ⟨s, he, hR⟩ => ⟨s.1, s.2.1, s.2.2, he, hR⟩

def S48J1 (s16 : Slc × Int) (I18 : (Slc × Int) → World → Prop) (s19 : Int) (vw20 : World) : Prop :=
  Br (decide (s16.2 ≥ 256)) (Br (decide (s16.2 < 280)) (Nw vw20 (.cells #[.int .i64 7] 3) fun vw21 =>
      Rn Tryz.prog (Builtin.append_ #[76, 76] 76 #[Slc.v s16.1, Slc.v ((⟨some ⟨vw20.heap.size, 0, none⟩, 1, 1⟩ : Slc))]) vw21 Slc.v fun (x22 : Slc) vw23 =>
      I18 (x22, IntKind.i64.wrap (s16.2 + 1)) vw23) (Nw vw20 (.cells #[.int .i64 s19] 3) fun vw24 =>
      Rn Tryz.prog (Builtin.append_ #[76, 76] 76 #[Slc.v s16.1, Slc.v ((⟨some ⟨vw20.heap.size, 0, none⟩, 1, 1⟩ : Slc))]) vw24 Slc.v fun (x25 : Slc) vw26 =>
      I18 (x25, IntKind.i64.wrap (s16.2 + 1)) vw26)) (Nw vw20 (.cells #[.int .i64 s19] 3) fun vw27 =>
    Rn Tryz.prog (Builtin.append_ #[76, 76] 76 #[Slc.v s16.1, Slc.v ((⟨some ⟨vw20.heap.size, 0, none⟩, 1, 1⟩ : Slc))]) vw27 Slc.v fun (x28 : Slc) vw29 =>
    I18 (x28, IntKind.i64.wrap (s16.2 + 1)) vw29)
def S48L1 (s16 : Slc × Int) (R : Slc → Slc → World → Prop) (I33 : (Slc × Int) → World → Prop) (s31 : Slc × Int) (vw32 : World) : Prop :=
  Br (decide (s31.2 < 32)) (Nw vw32 (.cells #[.int .i64 5] 3) fun vw34 =>
    Rn Tryz.prog (Builtin.append_ #[76, 76] 76 #[Slc.v s31.1, Slc.v ((⟨some ⟨vw32.heap.size, 0, none⟩, 1, 1⟩ : Slc))]) vw34 Slc.v fun (x35 : Slc) vw36 =>
    I33 (x35, IntKind.i64.wrap (s31.2 + 1)) vw36) (R s16.1 s31.1 vw32)
def S48L2 (R : Slc → Slc → World → Prop) (I18 : (Slc × Int) → World → Prop) (s16 : Slc × Int) (vw17 : World) : Prop :=
  Br (decide (s16.2 < 288)) (Join (S48J1 s16 I18) fun (vJ30 : Int → World → Prop) =>
      Br (decide (s16.2 ≥ 144)) (Br (decide (s16.2 < 256)) (vJ30 9 vw17) (vJ30 8 vw17)) (vJ30 8 vw17)) (Lp (σ := Slc × Int) (S48L1 s16 R) ((⟨none, 0, 0⟩ : Slc), 0) vw17)
/-- foliant/foliantref11.Fixed -/
def S48 (w : World) (R : Slc → Slc → World → Prop) : Prop :=
  Lp (σ := Slc × Int) (S48L2 R) ((⟨none, 0, 0⟩ : Slc), 0) w
def pl48 : Plan := (.seq (.reg .seq) (.seq (.reg .seq) (.seq (.seq (.reg .seq) (.block (.loop [(2, (.one .slc)), (4, (.one (.int .i64)))] [3] (.seq (.seq (.reg .seq) (.cond .leaf .leaf)) (.seq (.block (.seq (.reg .seq) (.join [(5, (.one (.int .i64)))] [2, 3, 4] (.seq (.reg .seq) (.cond (.reg .seq) .leaf)) (.seq (.seq (.reg .seq) (.cond (.reg .seq) .leaf)) (.reg .seq))))) (.reg .seq)))))) (.seq (.seq (.reg .seq) (.block (.loop [(3, (.one .slc)), (6, (.one (.int .i64)))] [2] (.seq (.seq (.reg .seq) (.cond .leaf .leaf)) (.seq (.block (.reg .seq)) (.reg .seq)))))) (.seq (.reg .seq) .leaf)))))
set_option maxRecDepth 100000 in
theorem T48 (w : World) (R : Slc → Slc → World → Prop) (h : S48 w R) : C48 w R := by
  have e : fnT Tryz.prog ⟨FF, MAY, (fun _ _ => False)⟩ pl48 Tryz.f48 [] w [(.one .slc), (.one .slc)] (fun s w => R s.1 s.2 w) = S48 w R := by kernel_rfl
  exact (fn_calls okF okM Tryz.func48 (by kernel_rfl) (by kernel_rfl) (e.mpr h)).mono fun _ _ ⟨s, he, hR⟩ => ⟨s.1, s.2, he, hR⟩

def S81L1 (I48 : (Int × Slc) → World → Prop) (s58 : Int) (s62 : Int × Int) (r64 : Int) (r65 : Int) (I71 : (Slc × Int) → World → Prop) (s69 : Slc × Int) (vw70 : World) : Prop :=
  Br (decide (s69.2 < (IntKind.i64.wrap (s62.2 + r64)))) (Nw vw70 (.cells #[.int .i64 s58] 3) fun vw72 =>
    Rn Tryz.prog (Builtin.append_ #[76, 76] 76 #[Slc.v s69.1, Slc.v ((⟨some ⟨vw70.heap.size, 0, none⟩, 1, 1⟩ : Slc))]) vw72 Slc.v fun (x73 : Slc) vw74 =>
    I71 (x73, IntKind.i64.wrap (s69.2 + 1)) vw74) (I48 (r65, s69.1) vw70)
def S81J1 (s1 : ByteArray) (many4 : Int) (s46 : Int × Slc) (I48 : (Int × Slc) → World → Prop) (r50 : Int) (s58 : Int) (R : Slc → Int → Int → World → Prop) (s62 : Int × Int) (vw63 : World) : Prop :=
  C31 s1 r50 s62.1 vw63 fun r64 r65 r66 vw67 =>
    Br (r66 != 0) (R (⟨none, 0, 0⟩ : Slc) 0 r66 vw67) (Lt (decide ((IntKind.i64.wrap (s62.2 + r64)) > (IntKind.i64.wrap (many4 - ((s46.2.len : Nat) : Int))))) fun (x68 : Bool) =>
      Br x68 (R (⟨none, 0, 0⟩ : Slc) 0 3 vw67) (Lp (σ := Slc × Int) (S81L1 I48 s58 s62 r64 r65) (s46.2, 0) vw67))
def S81J2 (s1 : ByteArray) (many4 : Int) (s46 : Int × Slc) (I48 : (Int × Slc) → World → Prop) (r49 : Int) (r50 : Int) (s58 : Int) (R : Slc → Int → Int → World → Prop) (s60 : Int) (vw61 : World) : Prop :=
  Join (S81J1 s1 many4 s46 I48 r50 s58 R) fun (vJ75 : (Int × Int) → World → Prop) =>
    Br (r49 == 18) (vJ75 (7, 11) vw61) (vJ75 (s60, 3) vw61)
def S81J3 (s1 : ByteArray) (many4 : Int) (s46 : Int × Slc) (I48 : (Int × Slc) → World → Prop) (r49 : Int) (r50 : Int) (R : Slc → Int → Int → World → Prop) (s58 : Int) (vw59 : World) : Prop :=
  Join (S81J2 s1 many4 s46 I48 r49 r50 s58 R) fun (vJ76 : Int → World → Prop) =>
    Br (r49 == 17) (vJ76 3 vw59) (vJ76 2 vw59)
def S81J4 (s1 : ByteArray) (many4 : Int) (s46 : Int × Slc) (I48 : (Int × Slc) → World → Prop) (r49 : Int) (r50 : Int) (R : Slc → Int → Int → World → Prop) (s56 : Unit) (vw57 : World) : Prop :=
  Join (S81J3 s1 many4 s46 I48 r49 r50 R) fun (vJ77 : Int → World → Prop) =>
    Br (r49 == 16) (0 ≤ (IntKind.i64.wrap (((s46.2.len : Nat) : Int) - 1)) ∧ (IntKind.i64.wrap (((s46.2.len : Nat) : Int) - 1)) < (s46.2.len : Nat) ∧ Nn s46.2.p fun a78 =>
      Ld vw57 (a78.add ((IntKind.i64.wrap (((s46.2.len : Nat) : Int) - 1)).toNat * 1)) (Value.int .i64) fun (x79 : Int) =>
      vJ77 x79 vw57) (vJ77 0 vw57)
def S81L2 (s1 : ByteArray) (lens3 : Slc) (many4 : Int) (R : Slc → Int → Int → World → Prop) (I48 : (Int × Slc) → World → Prop) (s46 : Int × Slc) (vw47 : World) : Prop :=
  Br (decide (((s46.2.len : Nat) : Int) < many4)) (C83 lens3 s1 s46.1 vw47 fun r49 r50 r51 vw52 =>
      Br (r51 != 0) (R (⟨none, 0, 0⟩ : Slc) 0 r51 vw52) (Br (decide (r49 < 16)) (Nw vw52 (.cells #[.int .i64 r49] 3) fun vw53 =>
          Rn Tryz.prog (Builtin.append_ #[76, 76] 76 #[Slc.v s46.2, Slc.v ((⟨some ⟨vw52.heap.size, 0, none⟩, 1, 1⟩ : Slc))]) vw53 Slc.v fun (x54 : Slc) vw55 =>
          I48 (r50, x54) vw55) (Join (S81J4 s1 many4 s46 I48 r49 r50 R) fun (vJ80 : Unit → World → Prop) =>
            Br (r49 == 16) (Br (((s46.2.len : Nat) : Int) == 0) (R (⟨none, 0, 0⟩ : Slc) 0 3 vw52) (vJ80 () vw52)) (vJ80 () vw52)))) (R s46.2 s46.1 0 vw47)
/-- foliant/foliantref11.all -/
def S81 (s1 : ByteArray) (vat2 : Int) (lens3 : Slc) (many4 : Int) (w : World) (R : Slc → Int → Int → World → Prop) : Prop :=
  Lp (σ := Int × Slc) (S81L2 s1 lens3 many4 R) (vat2, (⟨none, 0, 0⟩ : Slc)) w
def pl81 : Plan := (.seq (.reg .seq) (.seq (.reg .seq) (.seq (.block (.loop [(1, (.one (.int .i64))), (11, (.one .slc))] [0, 2, 3] (.seq (.seq (.reg .seq) (.cond .leaf .leaf)) (.block (.seq (.reg .seq) (.seq (.seq (.reg .seq) (.cond (.seq (.reg .seq) .leaf) .leaf)) (.seq (.seq (.reg .seq) (.cond (.seq (.reg .seq) .leaf) .leaf)) (.join [] [0, 2, 3, 11, 12, 13] (.seq (.reg .seq) (.cond (.seq (.reg .seq) .leaf) .leaf)) (.seq (.reg .seq) (.join [(17, (.one (.int .i64)))] [0, 2, 3, 11, 12, 13, 15, 16] (.seq (.reg .seq) (.cond (.reg .seq) .leaf)) (.join [(15, (.one (.int .i64)))] [0, 2, 3, 11, 12, 13, 16, 17] (.seq (.reg .seq) (.cond (.reg .seq) .leaf)) (.join [(15, (.one (.int .i64))), (16, (.one (.int .i64)))] [0, 2, 3, 11, 13, 17] (.seq (.reg .seq) (.cond (.reg .seq) .leaf)) (.seq (.reg .seq) (.seq (.seq (.reg .seq) (.cond (.seq (.reg .seq) .leaf) .leaf)) (.seq (.seq (.reg .seq) (.cond (.seq (.reg .seq) .leaf) .leaf)) (.seq (.seq (.reg .seq) (.block (.loop [(11, (.one .slc)), (21, (.one (.int .i64)))] [0, 2, 3, 16, 17, 18, 19] (.seq (.seq (.reg .seq) (.cond .leaf .leaf)) (.seq (.block (.reg .seq)) (.reg .seq)))))) (.reg .seq))))))))))))))))) (.seq (.reg .seq) .leaf))))
set_option maxRecDepth 100000 in
theorem T81 (s1 : ByteArray) (vat2 : Int) (lens3 : Slc) (many4 : Int) (w : World) (R : Slc → Int → Int → World → Prop) (h : S81 s1 vat2 lens3 many4 w R) : C81 s1 vat2 lens3 many4 w R := by
  have e : fnT Tryz.prog ⟨FF, MAY, (fun _ _ => False)⟩ pl81 Tryz.f81 [.string s1, .int .i64 vat2, Slc.v lens3, .int .i64 many4] w [(.one .slc), (.one (.int .i64)), (.one (.int .i64))] (fun s w => R s.1 s.2.1 s.2.2 w) = S81 s1 vat2 lens3 many4 w R := by kernel_rfl
  exact (fn_calls okF okM Tryz.func81 (by kernel_rfl) (by kernel_rfl) (e.mpr h)).mono fun _ _ ⟨s, he, hR⟩ => ⟨s.1, s.2.1, s.2.2, he, hR⟩

def S49L1 (s1 : ByteArray) (r3 : Int) (r7 : Int) (r11 : Int) (vw14 : World) (x16 : Slc) (R : Slc → Slc → Int → Int → World → Prop) (I31 : (Int × Int) → World → Prop) (s29 : Int × Int) (vw30 : World) : Prop :=
  Br (decide (s29.2 < (IntKind.i64.wrap (r11 + 4)))) (C31 s1 s29.1 3 vw30 fun r32 r33 r34 vw35 =>
      Br (r34 != 0) (R (⟨none, 0, 0⟩ : Slc) (⟨none, 0, 0⟩ : Slc) 0 r34 vw35) (0 ≤ s29.2 ∧ s29.2 < ((⟨some ⟨vw14.heap.size, 0, none⟩, 19, 19⟩ : Slc).len : Nat) ∧ Nn (⟨some ⟨vw14.heap.size, 0, none⟩, 19, 19⟩ : Slc).p fun a36 =>
        Ld vw35 (a36.add ((s29.2).toNat * 1)) (Value.int .i64) fun (x37 : Int) =>
        0 ≤ x37 ∧ x37 < (x16.len : Nat) ∧ Nn x16.p fun a38 =>
        St vw35 (a38.add ((x37).toNat * 1)) (.int .i64 r32) fun vw39 =>
        I31 (r33, IntKind.i64.wrap (s29.2 + 1)) vw39)) (C50 x16 vw30 fun r42 vw43 =>
      Br (r42 != 0) (R (⟨none, 0, 0⟩ : Slc) (⟨none, 0, 0⟩ : Slc) 0 r42 vw43) (C81 s1 s29.1 x16 (IntKind.i64.wrap ((IntKind.i64.wrap ((IntKind.i64.wrap (r3 + 257)) + r7)) + 1)) vw43 fun r44 r45 r46 vw47 =>
          Br (r46 != 0) (R (⟨none, 0, 0⟩ : Slc) (⟨none, 0, 0⟩ : Slc) 0 r46 vw47) (0 ≤ (IntKind.i64.wrap (r3 + 257)) ∧ (IntKind.i64.wrap (r3 + 257)) ≤ ((r44.cap : Nat) : Int) ∧ 0 ≤ (IntKind.i64.wrap (r3 + 257)) ∧ (IntKind.i64.wrap (r3 + 257)) ≤ ((r44.len : Nat) : Int) ∧ R (r44.cut 1 0 ((IntKind.i64.wrap (r3 + 257)).toNat) r44.cap) (r44.cut 1 ((IntKind.i64.wrap (r3 + 257)).toNat) r44.len r44.cap) r45 0 vw47.drew)))
/-- foliant/foliantref11.lengths -/
def S49 (s1 : ByteArray) (vfrom2 : Int) (w : World) (R : Slc → Slc → Int → Int → World → Prop) : Prop :=
  C31 s1 vfrom2 5 w fun r3 r4 r5 vw6 =>
    Br (r5 != 0) (R (⟨none, 0, 0⟩ : Slc) (⟨none, 0, 0⟩ : Slc) 0 r5 vw6) (Br (decide (r3 > 29)) (R (⟨none, 0, 0⟩ : Slc) (⟨none, 0, 0⟩ : Slc) 0 3 vw6) (C31 s1 r4 5 vw6 fun r7 r8 r9 vw10 =>
          Br (r9 != 0) (R (⟨none, 0, 0⟩ : Slc) (⟨none, 0, 0⟩ : Slc) 0 r9 vw10) (Br (decide (r7 > 29)) (R (⟨none, 0, 0⟩ : Slc) (⟨none, 0, 0⟩ : Slc) 0 3 vw10) (C31 s1 r8 4 vw10 fun r11 r12 r13 vw14 =>
                Br (r13 != 0) (R (⟨none, 0, 0⟩ : Slc) (⟨none, 0, 0⟩ : Slc) 0 r13 vw14) (Nw vw14 (.cells #[.int .i64 16, .int .i64 17, .int .i64 18, .int .i64 0, .int .i64 8, .int .i64 7, .int .i64 9, .int .i64 6, .int .i64 10, .int .i64 5, .int .i64 11, .int .i64 4, .int .i64 12, .int .i64 3, .int .i64 13, .int .i64 2, .int .i64 14, .int .i64 1, .int .i64 15] 3) fun vw15 =>
                  Rn Tryz.prog (Instr.makeSlice 76 (.int .i64 19) (.int .i64 19)) vw15 Slc.v fun (x16 : Slc) vw17 =>
                  Lp (σ := Int × Int) (S49L1 s1 r3 r7 r11 vw14 x16 R) (r12, 0) vw17)))))
def pl49 : Plan := (.seq (.reg .seq) (.seq (.reg .seq) (.seq (.seq (.reg .seq) (.cond (.seq (.reg .seq) .leaf) .leaf)) (.seq (.seq (.reg .seq) (.cond (.seq (.reg .seq) .leaf) .leaf)) (.seq (.reg .seq) (.seq (.seq (.reg .seq) (.cond (.seq (.reg .seq) .leaf) .leaf)) (.seq (.seq (.reg .seq) (.cond (.seq (.reg .seq) .leaf) .leaf)) (.seq (.reg .seq) (.seq (.seq (.reg .seq) (.cond (.seq (.reg .seq) .leaf) .leaf)) (.seq (.reg .seq) (.seq (.reg .seq) (.seq (.seq (.reg .seq) (.block (.loop [(15, (.one (.int .i64))), (19, (.one (.int .i64)))] [0, 8, 11, 14, 17, 18] (.seq (.seq (.reg .seq) (.cond .leaf .leaf)) (.seq (.block (.seq (.reg .seq) (.seq (.seq (.reg .seq) (.cond (.seq (.reg .seq) .leaf) .leaf)) (.reg .seq)))) (.reg .seq)))))) (.seq (.seq (.reg .seq) (.seq (.reg .seq) (.cond (.seq (.reg .seq) .leaf) .leaf))) (.seq (.reg .seq) (.seq (.seq (.reg .seq) (.cond (.seq (.reg .seq) .leaf) .leaf)) (.seq (.reg .still) .leaf))))))))))))))))
set_option maxRecDepth 100000 in
theorem T49 (s1 : ByteArray) (vfrom2 : Int) (w : World) (R : Slc → Slc → Int → Int → World → Prop) (h : S49 s1 vfrom2 w R) : C49 s1 vfrom2 w R := by
  have e : fnT Tryz.prog ⟨FF, MAY, (fun _ _ => False)⟩ pl49 Tryz.f49 [.string s1, .int .i64 vfrom2] w [(.one .slc), (.one .slc), (.one (.int .i64)), (.one (.int .i64))] (fun s w => R s.1 s.2.1 s.2.2.1 s.2.2.2 w) = S49 s1 vfrom2 w R := by kernel_rfl
  exact (fn_calls okF okM Tryz.func49 (by kernel_rfl) (by kernel_rfl) (e.mpr h)).mono fun _ _ ⟨s, he, hR⟩ => ⟨s.1, s.2.1, s.2.2.1, s.2.2.2, he, hR⟩

def S84L1 (r13 : Int) (r23 : Int) (r26 : Int) (R : Slc → Int → Int → World → Prop) (I39 : (Slc × Int) → World → Prop) (s37 : Slc × Int) (vw38 : World) : Prop :=
  Br (decide (s37.2 < r13)) (0 ≤ (IntKind.i64.wrap (((s37.1.len : Nat) : Int) - r26)) ∧ (IntKind.i64.wrap (((s37.1.len : Nat) : Int) - r26)) < (s37.1.len : Nat) ∧ Nn s37.1.p fun a40 =>
    Ld vw38 (a40.add ((IntKind.i64.wrap (((s37.1.len : Nat) : Int) - r26)).toNat * 1)) (Value.int .u8) fun (x41 : Int) =>
    Nw vw38 (.cells #[.int .u8 x41] 5) fun vw42 =>
    Rn Tryz.prog (Builtin.append_ #[29, 29] 29 #[Slc.v s37.1, Slc.v ((⟨some ⟨vw38.heap.size, 0, none⟩, 1, 1⟩ : Slc))]) vw42 Slc.v fun (x43 : Slc) vw44 =>
    I39 (x43, IntKind.i64.wrap (s37.2 + 1)) vw44) (R s37.1 r23 0 vw38)
/-- foliant/foliantref11.copied -/
def S84 (s1 : ByteArray) (vat2 : Int) (sign3 : Int) (far4 : Slc) (out5 : Slc) (most6 : Int) (w : World) (R : Slc → Int → Int → World → Prop) : Prop :=
  Br (decide (sign3 > 285)) (R (⟨none, 0, 0⟩ : Slc) 0 13 w) (C104 sign3 w fun r7 vw8 =>
      C31 s1 vat2 r7 vw8 fun r9 r10 r11 vw12 =>
        Br (r11 != 0) (R (⟨none, 0, 0⟩ : Slc) 0 r11 vw12) (C105 sign3 r9 vw12 fun r13 r14 vw15 =>
            C83 far4 s1 r10 vw15 fun r16 r17 r18 vw19 =>
              Br (r18 != 0) (R (⟨none, 0, 0⟩ : Slc) 0 r18 vw19) (Br (decide (r16 > 29)) (R (⟨none, 0, 0⟩ : Slc) 0 13 vw19) (C106 r16 vw19 fun r20 vw21 =>
                    C31 s1 r17 r20 vw21 fun r22 r23 r24 vw25 =>
                      Br (r24 != 0) (R (⟨none, 0, 0⟩ : Slc) 0 r24 vw25) (C107 r16 r22 vw25 fun r26 r27 vw28 =>
                          Br (decide (r26 > ((out5.len : Nat) : Int))) (R (⟨none, 0, 0⟩ : Slc) 0 14 vw28) (Br (decide (r13 > (IntKind.i64.wrap (most6 - ((out5.len : Nat) : Int))))) (R (⟨none, 0, 0⟩ : Slc) 0 5 vw28) (Lp (σ := Slc × Int) (S84L1 r13 r23 r26 R) (out5, 0) vw28)))))))
def pl84 : Plan := (.seq (.reg .seq) (.seq (.seq (.reg .seq) (.cond (.seq (.reg .seq) .leaf) .leaf)) (.seq (.reg .seq) (.seq (.seq (.reg .seq) (.cond (.seq (.reg .seq) .leaf) .leaf)) (.seq (.reg .seq) (.seq (.reg .seq) (.seq (.seq (.reg .seq) (.cond (.seq (.reg .seq) .leaf) .leaf)) (.seq (.seq (.reg .seq) (.cond (.seq (.reg .seq) .leaf) .leaf)) (.seq (.reg .seq) (.seq (.seq (.reg .seq) (.cond (.seq (.reg .seq) .leaf) .leaf)) (.seq (.reg .seq) (.seq (.seq (.reg .seq) (.cond (.seq (.reg .seq) .leaf) .leaf)) (.seq (.seq (.reg .seq) (.cond (.seq (.reg .seq) .leaf) .leaf)) (.seq (.seq (.reg .seq) (.block (.loop [(4, (.one .slc)), (28, (.one (.int .i64)))] [18, 24, 26] (.seq (.seq (.reg .seq) (.cond .leaf .leaf)) (.seq (.block (.reg .seq)) (.reg .seq)))))) (.seq (.reg .seq) .leaf)))))))))))))))
set_option maxRecDepth 100000 in
theorem T84 (s1 : ByteArray) (vat2 : Int) (sign3 : Int) (far4 : Slc) (out5 : Slc) (most6 : Int) (w : World) (R : Slc → Int → Int → World → Prop) (h : S84 s1 vat2 sign3 far4 out5 most6 w R) : C84 s1 vat2 sign3 far4 out5 most6 w R := by
  have e : fnT Tryz.prog ⟨FF, MAY, (fun _ _ => False)⟩ pl84 Tryz.f84 [.string s1, .int .i64 vat2, .int .i64 sign3, Slc.v far4, Slc.v out5, .int .i64 most6] w [(.one .slc), (.one (.int .i64)), (.one (.int .i64))] (fun s w => R s.1 s.2.1 s.2.2 w) = S84 s1 vat2 sign3 far4 out5 most6 w R := by kernel_rfl
  exact (fn_calls okF okM Tryz.func84 (by kernel_rfl) (by kernel_rfl) (e.mpr h)).mono fun _ _ ⟨s, he, hR⟩ => ⟨s.1, s.2.1, s.2.2, he, hR⟩

def S51L1 (s1 : ByteArray) (near3 : Slc) (far4 : Slc) (most6 : Int) (R : Slc → Int → Int → World → Prop) (I9 : (Int × Slc) → World → Prop) (s7 : Int × Slc) (vw8 : World) : Prop :=
  C83 near3 s1 s7.1 vw8 fun r10 r11 r12 vw13 =>
    Br (r12 != 0) (R (⟨none, 0, 0⟩ : Slc) 0 r12 vw13) (Br (r10 == 256) (R s7.2 r11 0 vw13) (Br (decide (r10 > 256)) (C84 s1 r11 r10 far4 s7.2 most6 vw13 fun r18 r19 r20 vw21 =>
            Br (r20 != 0) (R (⟨none, 0, 0⟩ : Slc) 0 r20 vw21) (I9 (r19, r18) vw21)) (Br (decide (((s7.2.len : Nat) : Int) ≥ most6)) (R (⟨none, 0, 0⟩ : Slc) 0 5 vw13) (Nw vw13 (.cells #[.int .u8 (IntKind.u8.wrap r10)] 5) fun vw22 =>
            Rn Tryz.prog (Builtin.append_ #[29, 29] 29 #[Slc.v s7.2, Slc.v ((⟨some ⟨vw13.heap.size, 0, none⟩, 1, 1⟩ : Slc))]) vw22 Slc.v fun (x23 : Slc) vw24 =>
            I9 (r11, x23) vw24))))
/-- foliant/foliantref11.signs -/
def S51 (s1 : ByteArray) (vat2 : Int) (near3 : Slc) (far4 : Slc) (out5 : Slc) (most6 : Int) (w : World) (R : Slc → Int → Int → World → Prop) : Prop :=
  Lp (σ := Int × Slc) (S51L1 s1 near3 far4 most6 R) (vat2, out5) w
def pl51 : Plan := (.seq (.reg .seq) (.block (.loop [(1, (.one (.int .i64))), (4, (.one .slc))] [0, 2, 3, 5] (.block (.seq (.reg .seq) (.seq (.seq (.reg .seq) (.cond (.seq (.reg .seq) .leaf) .leaf)) (.seq (.seq (.reg .seq) (.cond (.seq (.reg .seq) .leaf) .leaf)) (.seq (.seq (.reg .seq) (.cond (.seq (.reg .seq) (.seq (.seq (.reg .seq) (.cond (.seq (.reg .seq) .leaf) .leaf)) (.seq (.reg .seq) .leaf))) .leaf)) (.seq (.seq (.reg .seq) (.cond (.seq (.reg .seq) .leaf) .leaf)) (.reg .seq))))))))))
set_option maxRecDepth 100000 in
theorem T51 (s1 : ByteArray) (vat2 : Int) (near3 : Slc) (far4 : Slc) (out5 : Slc) (most6 : Int) (w : World) (R : Slc → Int → Int → World → Prop) (h : S51 s1 vat2 near3 far4 out5 most6 w R) : C51 s1 vat2 near3 far4 out5 most6 w R := by
  have e : fnT Tryz.prog ⟨FF, MAY, (fun _ _ => False)⟩ pl51 Tryz.f51 [.string s1, .int .i64 vat2, Slc.v near3, Slc.v far4, Slc.v out5, .int .i64 most6] w [(.one .slc), (.one (.int .i64)), (.one (.int .i64))] (fun s w => R s.1 s.2.1 s.2.2 w) = S51 s1 vat2 near3 far4 out5 most6 w R := by kernel_rfl
  exact (fn_calls okF okM Tryz.func51 (by kernel_rfl) (by kernel_rfl) (e.mpr h)).mono fun _ _ ⟨s, he, hR⟩ => ⟨s.1, s.2.1, s.2.2, he, hR⟩

/-- foliant/foliantref11.block -/
def S32 (s1 : ByteArray) (vat2 : Int) (kind3 : Int) (out4 : Slc) (most5 : Int) (w : World) (R : Slc → Int → Int → World → Prop) : Prop :=
  Br (kind3 == 3) (R (⟨none, 0, 0⟩ : Slc) 0 3 w) (Br (kind3 == 0) (C47 s1 vat2 out4 most5 w fun r10 r11 r12 vw13 =>
        R r10 r11 r12 vw13) (C48 w fun r14 r15 vw16 =>
        Br (kind3 == 2) (C49 s1 vat2 vw16 fun r32 r33 r34 r35 vw36 =>
            Br (r35 != 0) (R (⟨none, 0, 0⟩ : Slc) 0 r35 vw36) (0 ≤ (256 : Int) ∧ (256 : Int) < (r32.len : Nat) ∧ Nn r32.p fun a37 =>
              Ld vw36 (a37.add (((256 : Int)).toNat * 1)) (Value.int .i64) fun (x38 : Int) =>
              Br (x38 == 0) (R (⟨none, 0, 0⟩ : Slc) 0 13 vw36) (C50 r32 vw36 fun r39 vw40 =>
                  Br (r39 != 0) (R (⟨none, 0, 0⟩ : Slc) 0 r39 vw40) (C50 r33 vw40 fun r41 vw42 =>
                      Br (r41 != 0) (R (⟨none, 0, 0⟩ : Slc) 0 r41 vw42) (C51 s1 r34 r32 r33 out4 most5 vw42 fun r43 r44 r45 vw46 =>
                          R r43 r44 r45 vw46))))) (C51 s1 vat2 r14 r15 out4 most5 vw16 fun r47 r48 r49 vw50 =>
            R r47 r48 r49 vw50)))
def pl32 : Plan := (.seq (.reg .seq) (.seq (.seq (.reg .seq) (.cond (.seq (.reg .seq) .leaf) .leaf)) (.seq (.seq (.reg .seq) (.cond (.seq (.reg .seq) .leaf) .leaf)) (.seq (.reg .seq) (.seq (.seq (.reg .seq) (.cond (.seq (.reg .seq) (.seq (.seq (.reg .seq) (.cond (.seq (.reg .seq) .leaf) .leaf)) (.seq (.seq (.reg .seq) (.cond (.seq (.reg .seq) .leaf) .leaf)) (.seq (.seq (.reg .seq) (.seq (.reg .seq) (.cond (.seq (.reg .seq) .leaf) .leaf))) (.seq (.seq (.reg .seq) (.seq (.reg .seq) (.cond (.seq (.reg .seq) .leaf) .leaf))) (.reg .seq)))))) .leaf)) (.seq (.reg .seq) .leaf))))))
set_option maxRecDepth 100000 in
theorem T32 (s1 : ByteArray) (vat2 : Int) (kind3 : Int) (out4 : Slc) (most5 : Int) (w : World) (R : Slc → Int → Int → World → Prop) (h : S32 s1 vat2 kind3 out4 most5 w R) : C32 s1 vat2 kind3 out4 most5 w R := by
  have e : fnT Tryz.prog ⟨FF, MAY, (fun _ _ => False)⟩ pl32 Tryz.f32 [.string s1, .int .i64 vat2, .int .i64 kind3, Slc.v out4, .int .i64 most5] w [(.one .slc), (.one (.int .i64)), (.one (.int .i64))] (fun s w => R s.1 s.2.1 s.2.2 w) = S32 s1 vat2 kind3 out4 most5 w R := by kernel_rfl
  exact (fn_calls okF okM Tryz.func32 (by kernel_rfl) (by kernel_rfl) (e.mpr h)).mono fun _ _ ⟨s, he, hR⟩ => ⟨s.1, s.2.1, s.2.2, he, hR⟩

def S16L1 (s1 : ByteArray) (most2 : Int) (R : ByteArray → Int → Int → World → Prop) (I5 : (Slc × Int) → World → Prop) (s3 : Slc × Int) (vw4 : World) : Prop :=
  C31 s1 s3.2 1 vw4 fun r6 r7 r8 vw9 =>
    Br (r8 != 0) (R (⟨#[]⟩ : ByteArray) 0 r8 vw9) (C31 s1 r7 2 vw9 fun r10 r11 r12 vw13 =>
        Br (r12 != 0) (R (⟨#[]⟩ : ByteArray) 0 r12 vw13) (C32 s1 r11 r10 s3.1 (if 1048576 < most2 then 1048576 else most2) vw13 fun r14 r15 r16 vw17 =>
            Br (r16 != 0) (R (⟨#[]⟩ : ByteArray) 0 r16 vw17) (Br (r6 == 1) (Rn Tryz.prog (convert 29 9 (Slc.v r14)) vw17 Value.string fun (x18 : ByteArray) vw19 =>
                R x18 (IntKind.i64.wrap (Int.tdiv (IntKind.i64.wrap (r15 + 7)) 8)) 0 vw19) (I5 (r14, r15) vw17))))
/-- foliant/foliantref11.All -/
def S16 (s1 : ByteArray) (most2 : Int) (w : World) (R : ByteArray → Int → Int → World → Prop) : Prop :=
  Br (decide (most2 < 0)) (R (⟨#[]⟩ : ByteArray) 0 1 w) (Lp (σ := Slc × Int) (S16L1 s1 most2 R) ((⟨none, 0, 0⟩ : Slc), 0) w)
def pl16 : Plan := (.seq (.reg .seq) (.seq (.seq (.reg .seq) (.cond (.seq (.reg .seq) .leaf) .leaf)) (.seq (.reg .seq) (.seq (.reg .seq) (.seq (.reg .seq) (.block (.loop [(7, (.one .slc)), (8, (.one (.int .i64)))] [0, 1] (.block (.seq (.reg .seq) (.seq (.seq (.reg .seq) (.cond (.seq (.reg .seq) .leaf) .leaf)) (.seq (.reg .seq) (.seq (.seq (.reg .seq) (.cond (.seq (.reg .seq) .leaf) .leaf)) (.seq (.reg .seq) (.seq (.seq (.reg .seq) (.cond (.seq (.reg .seq) .leaf) .leaf)) (.seq (.reg .seq) (.seq (.reg .seq) (.cond (.seq (.reg .seq) .leaf) .leaf)))))))))))))))))
set_option maxRecDepth 100000 in
theorem T16 (s1 : ByteArray) (most2 : Int) (w : World) (R : ByteArray → Int → Int → World → Prop) (h : S16 s1 most2 w R) : C16 s1 most2 w R := by
  have e : fnT Tryz.prog ⟨FF, MAY, (fun _ _ => False)⟩ pl16 Tryz.f16 [.string s1, .int .i64 most2] w [(.one .str), (.one (.int .i64)), (.one (.int .i64))] (fun s w => R s.1 s.2.1 s.2.2 w) = S16 s1 most2 w R := by kernel_rfl
  exact (fn_calls okF okM Tryz.func16 (by kernel_rfl) (by kernel_rfl) (e.mpr h)).mono fun _ _ ⟨s, he, hR⟩ => ⟨s.1, s.2.1, s.2.2, he, hR⟩

end Go.Proofs.YtjkoafjnmkchdaaGreatDoor

/- Inflate: the program's bits, room, stored, copied, coded. Conditions: sizes. -/
namespace Go.Proofs.YtjkoafjnmkchdaaGreatDoor
namespace Inf
open Sh Bit
set_option linter.unusedVariables false
set_option linter.unusedSimpArgs false
set_option maxRecDepth 4000
set_option maxHeartbeats 2000000
/-- The panic of this package. -/
def gup (e : Int) : Value := .iface 51 (.agg #[.int .i64 e])
/-- The cells of a decompression. -/
def fcells (rb : Nat) (o : Slc) (most : Nat) : Array Value := #[.pointer (at0 rb), Slc.v o, .int .i64 (most : Int)]
structure FS (w : World) (fb rb : Nat) (o : Slc) (s : ByteArray) (out : List UInt8) (p most : Nat) : Prop where
  blk : Blk w fb (fcells rb o most) 57
  rd : RB w rb s p
  row : BRow w o out
  ne : fb ≠ rb
  nf : ¬ o.own fb
  nr : ¬ o.own rb
  len : out.length ≤ most
  big : most ≤ 1048576
/-- What may change. -/
def XF (fb rb : Nat) (o : Slc) : Nat → Prop := fun j => j = fb ∨ j = rb ∨ o.own j
structure Mv (fb rb : Nat) (w w1 : World) (o o1 : Slc) : Prop where
  ext : Ext (XF fb rb o) w w1
  own : ∀ j, o1.own j → o.own j ∨ w.heap.size ≤ j
section
variable {w w1 w2 : World} {fb rb : Nat} {o o1 o2 : Slc} {s : ByteArray} {out : List UInt8} {p most : Nat}
theorem Mv.refl : Mv fb rb w w o o := ⟨Ext.refl _ _, fun j h => .inl h⟩
theorem Mv.of (h : Ext (XF fb rb o) w w1) : Mv fb rb w w1 o o := ⟨h, fun j h => .inl h⟩
theorem Mv.rd (h : Ext (· = rb) w w1) : Mv fb rb w w1 o o := .of (h.mono fun i _ e => .inr (.inl e))
theorem Mv.no (h : Ext (fun _ => False) w w1) : Mv fb rb w w1 o o := .of (h.mono fun i _ e => e.elim)
theorem Mv.tr (h : Mv fb rb w w1 o o1) (k : Mv fb rb w1 w2 o1 o2) : Mv fb rb w w2 o o2 := by
  refine ⟨h.ext.trans k.ext (fun _ h => h) fun i hi e => ?_, fun j hj => ?_⟩
  · rcases e with e | e | e
    · exact .inl e
    · exact .inr (.inl e)
    · rcases h.own i e with e | e
      · exact .inr (.inr e)
      · omega
  · have := h.ext.size
    rcases k.own j hj with e | e
    · exact h.own j e
    · exact .inr (by omega)
theorem FS.keep (h : FS w fb rb o s out p most) (he : Ext (fun _ => False) w w1) : FS w1 fb rb o s out p most :=
  ⟨he.blk h.blk (fun h => h), h.rd.keep he (fun h => h), h.row.keep he (fun _ _ h => h), h.ne, h.nf, h.nr, h.len, h.big⟩
theorem FS.read {q : Nat} (h : FS w fb rb o s out p most) (he : Ext (· = rb) w w1) (hr : RB w1 rb s q) : FS w1 fb rb o s out q most :=
  ⟨he.blk h.blk h.ne, hr, h.row.keep he (fun j hj e => h.nr (by have e : j = rb := e; rw [← e]; exact hj)), h.ne, h.nf, h.nr, h.len, h.big⟩
/-- Where a table may lie. -/
structure Sep (lo hi fb rb : Nat) (o : Slc) (w : World) : Prop where
  f : fb < lo ∨ hi ≤ fb
  r : rb < lo ∨ hi ≤ rb
  o : ∀ j, o.own j → j < lo ∨ hi ≤ j
  h : hi ≤ w.heap.size
theorem Sep.mv {lo hi : Nat} (h : Sep lo hi fb rb o w) (m : Mv fb rb w w1 o o1) : Sep lo hi fb rb o1 w1 := by
  have := m.ext.size
  have := h.h
  refine ⟨h.f, h.r, fun j hj => ?_, by omega⟩
  rcases m.own j hj with e | e
  · exact h.o j e
  · omega
theorem TB.mv {lo hi tb : Nat} {lens : List Int} (h : TB w lo hi tb lens) (k : Sep lo hi fb rb o w) (m : Ext (XF fb rb o) w w1) : TB w1 lo hi tb lens :=
  h.keep m fun j h1 h2 e => by
    have := k.f
    have := k.r
    rcases e with e | e | e
    · omega
    · omega
    · have := k.o j e; omega
attribute [local irreducible] Ld St Nw Nn Lt LdS
theorem c_need (b : Bool) (e : Int) (w : World) : C27 b e w (fun w1 => b = true ∧ w1 = w) fun v w1 => v = gup e ∧ b = false ∧ w1 = w := by
  refine T27 _ _ _ _ _ ?_
  unfold S27
  cases b
  · exact Br.t rfl ⟨rfl, rfl, rfl⟩
  · exact Br.f rfl ⟨rfl, rfl⟩
theorem c_mustI (x e : Int) (w : World) : C71 x e w (fun r w1 => e = 0 ∧ r = x ∧ w1 = w) fun v w1 => v = gup e ∧ e ≠ 0 ∧ w1 = w := by
  refine T71 _ _ _ _ _ ?_
  unfold S71
  exact (c_need (e == 0) e w).mono (fun w1 h => ⟨by simpa using h.1, rfl, h.2⟩) fun v w1 h => ⟨h.1, by simpa using h.2.1, h.2.2⟩
theorem c_mustS (x : ByteArray) (e : Int) (w : World) : C75 x e w (fun r w1 => e = 0 ∧ r = x ∧ w1 = w) fun v w1 => v = gup e ∧ e ≠ 0 ∧ w1 = w := by
  refine T75 _ _ _ _ _ ?_
  unfold S75
  exact (c_need (e == 0) e w).mono (fun w1 h => ⟨by simpa using h.1, rfl, h.2⟩) fun v w1 h => ⟨h.1, by simpa using h.2.1, h.2.2⟩
theorem c_mustT (x : Option Addr) (e : Int) (w : World) : C78 x e w (fun r w1 => e = 0 ∧ r = x ∧ w1 = w) fun v w1 => v = gup e ∧ e ≠ 0 ∧ w1 = w := by
  refine T78 _ _ _ _ _ ?_
  unfold S78
  exact (c_need (e == 0) e w).mono (fun w1 h => ⟨by simpa using h.1, rfl, h.2⟩) fun v w1 h => ⟨h.1, by simpa using h.2.1, h.2.2⟩
theorem c_bits {n : Nat} (hn : n ≤ 24) (h : FS w fb rb o s out p most) (hs : s.size ≤ 1000000) : C42 (some (⟨fb, 0, none⟩ : Addr)) (n : Int) w (fun v w1 => ∃ q, num s p n = .ok (v, q) ∧ FS w1 fb rb o s out q most ∧ Ext (· = rb) w w1) fun v w1 => num s p n = .error 4 ∧ v = gup 4 ∧ Ext (· = rb) w w1 := by
  refine T42 _ _ _ _ _ ?_
  unfold S42
  refine Nn.of (Ld.of h.blk (x := at0 rb) rfl ((c_lowN h.rd hs hn).mono ?_))
  rintro v e w1 ⟨he, q, hnum, hr⟩
  refine (c_mustI v e w1).mono ?_ ?_
  · rintro r _ ⟨rfl, rfl, rfl⟩
    rcases hnum with ⟨h1, _⟩ | ⟨_, h2⟩
    · exact ⟨q, h1, h.read he (hr rfl), he⟩
    · cases h2
  · rintro v _ ⟨rfl, h2, rfl⟩
    rcases hnum with ⟨_, h3⟩ | ⟨h1, rfl⟩
    · exact absurd h3 h2
    · exact ⟨h1, rfl, he⟩
theorem c_room {n : Nat} (hn : n ≤ 2000000) (h : FS w fb rb o s out p most) : C74 (some (⟨fb, 0, none⟩ : Addr)) (n : Int) w (fun w1 => out.length + n ≤ most ∧ w1 = w.drew) fun v w1 => v = gup 5 ∧ ¬ out.length + n ≤ most ∧ w1 = w.drew := by
  refine T74 _ _ _ _ _ ?_
  unfold S74
  have hb := h.blk.drew
  have hl := h.row.len
  have h1 := h.len
  have h2 := h.big
  refine Nn.of ?_
  simp only [add_lit, Nat.zero_add]
  refine Ld.of hb (o := 1) (x := o) rfl (Nn.of ?_)
  simp only [add_lit, Nat.zero_add]
  refine Ld.of hb (o := 2) (x := (most : Int)) rfl ?_
  rw [hl, i64_id (by omega)]
  refine (c_need _ 5 _).mono ?_ ?_
  · rintro w1 ⟨h3, rfl⟩
    have h3 := of_decide_eq_true h3
    exact ⟨by omega, rfl⟩
  · rintro v w1 ⟨rfl, h3, rfl⟩
    have h3 := of_decide_eq_false h3
    exact ⟨rfl, by omega, rfl⟩
/-- What a step of the decompression answers: R and the panic. -/
def OkR (fb rb : Nat) (w : World) (o : Slc) (s : ByteArray) (most : Nat) (r : Except Int (List UInt8 × Nat)) (w1 : World) : Prop := ∃ o1 out1 q, r = .ok (out1, q) ∧ FS w1 fb rb o1 s out1 q most ∧ Mv fb rb w w1 o o1
def ErR {α : Type} (fb rb : Nat) (w : World) (o : Slc) (r : Except Int α) (v : Value) (w1 : World) : Prop := ∃ e, r = .error e ∧ v = gup e ∧ Ext (XF fb rb o) w w1
theorem Mv.er (h : Mv fb rb w w1 o o1) (k : Ext (XF fb rb o1) w1 w2) : Ext (XF fb rb o) w w2 := (h.tr (.of k)).ext
/-- The output after more bytes. -/
theorem FS.put {out1 : List UInt8} (h : FS w fb rb o s out p most) (hl : out1.length ≤ most) {o1 : Slc} (he : Ext o.own w w1) (hr : BRow w1 o1 out1) (hn : ∀ j, o1.own j → o.own j ∨ w.heap.size ≤ j) {K : World → Prop} (k : ∀ w2, FS w2 fb rb o1 s out1 p most → Mv fb rb w w2 o o1 → K w2) : St w1 ⟨fb, 1, none⟩ (Slc.v o1) K := by
  have hb := he.blk h.blk h.nf
  have hfb := h.blk.lt
  have hrb := h.rd.lt
  refine (Hx.one (F := (· = fb)) hb).st 0 rfl (by show 1 < 3; omega) (.inl rfl) fun w2 H => k w2 ?_ ?_
  · have nf : ¬ o1.own fb := fun e => by
      rcases hn fb e with e | e
      · exact h.nf e
      · omega
    have nr : ¬ o1.own rb := fun e => by
      rcases hn rb e with e | e
      · exact h.nr e
      · omega
    exact ⟨H.get 0 rfl, (h.rd.keep he h.nr).keep H.ext (fun e => h.ne e.symm), hr.keep H.ext (fun j hj e => nf (by have e : j = fb := e; rw [← e]; exact hj)), h.ne, nf, nr, hl, h.big⟩
  · exact ⟨he.trans H.ext (fun i e => .inr (.inr e)) fun i hi e => .inl e, hn⟩
theorem c_stored (h : FS w fb rb o s out p most) (hs : s.size ≤ 1000000) : C43 (some (⟨fb, 0, none⟩ : Addr)) w (OkR fb rb w o s most (stored s p out most)) (ErR fb rb w o (stored s p out most)) := by
  refine T43 _ _ _ _ ?_
  unfold S43 stored
  refine Nn.of (Ld.of h.blk (x := at0 rb) rfl ?_)
  obtain ⟨hp, way, hw, hrd⟩ := h.rd
  refine (c_align hrd hp hs).mono ?_
  rintro w1 ⟨h1, e1⟩
  have H1 := h.read e1 ⟨by omega, 0, .inl rfl, h1⟩
  have m1 : Mv fb rb w w1 o o := .rd e1
  refine (c_bits (n := 16) (by omega) H1 hs).mono ?_ ?_
  rotate_left
  · rintro v w2 ⟨hn, rfl, e2⟩
    rw [hn]
    exact ⟨4, rfl, rfl, m1.er (Mv.rd e2).ext⟩
  rintro n w2 ⟨q, hn, H2, e2⟩
  rw [hn]
  have m2 := m1.tr (.rd e2)
  obtain ⟨n0, n1, rfl, n3⟩ := num_bd hn
  have h65 : (2 : Int) ^ 16 = 65536 := by decide
  dsimp only
  refine (c_bits (n := 16) (by omega) H2 hs).mono ?_ ?_
  rotate_left
  · rintro v w3 ⟨hm, rfl, e3⟩
    rw [hm]
    exact ⟨4, rfl, rfl, m2.er (Mv.rd e3).ext⟩
  rintro m w3 ⟨q3, hm, H3, e3⟩
  rw [hm]
  have m3 := m2.tr (.rd e3)
  obtain ⟨k0, k1, rfl, k3⟩ := num_bd hm
  dsimp only
  rw [i64_id (n := 65535 - n) (by omega)]
  refine (c_need _ 3 _).mono ?_ ?_
  rotate_left
  · rintro v _ ⟨rfl, h4, rfl⟩
    have h4 : m ≠ 65535 - n := by simpa using h4
    rw [if_pos h4]
    exact ⟨3, rfl, rfl, m3.ext⟩
  rintro w3 ⟨h4, rfl⟩
  have h4 : m = 65535 - n := by simpa using h4
  rw [if_neg (fun hh => hh h4)]
  obtain ⟨z, rfl⟩ := Int.eq_ofNat_of_zero_le n0
  simp only [Int.toNat_natCast]
  refine (c_room (n := z) (by omega) H3).mono ?_ ?_
  rotate_left
  · rintro v _ ⟨rfl, h5, rfl⟩
    rw [if_pos h5]
    exact ⟨5, rfl, rfl, m3.ext.drew⟩
  rintro _ ⟨h5, rfl⟩
  rw [if_neg (fun hh => hh h5)]
  have H4 := H3.keep (Ext.refl _ _).drew
  have H5 := H4.keep (Ext.refl _ _).drew
  have m5 : Mv fb rb w w3.drew.drew o o := (m3.tr (.no (Ext.refl _ _).drew)).tr (.no (Ext.refl _ _).drew)
  refine ⟨fun w' => Blk w' fb (fcells rb o most) 57, H5.blk, Nn.of ?_⟩
  simp only [add_lit, Nat.zero_add]
  refine LdS.of (fun w' h => h) (o := 1) (x := o) rfl (Nn.of (LdS.of (fun w' h => h) (o := 0) (x := at0 rb) rfl ?_))
  obtain ⟨hp5, way5, hw5, hrd5⟩ := H5.rd
  refine (c_raw hrd5 hp5 hs (z : Int)).mono ?_
  rintro v e w6 ⟨rfl, rfl, h6, e6⟩
  have hpos : ¬ ((z : Int) < 0 ∨ ((p + 7) / 8 * 8 + 16 + 16) % 8 ≠ 0) := by omega
  refine ⟨e6.blk H5.blk h.ne, ?_⟩
  refine (c_mustS _ _ _).mono ?_ ?_
  rotate_left
  · rintro v _ ⟨rfl, h7, rfl⟩
    by_cases hend : ((s.size - ((p + 7) / 8 * 8 + 16 + 16) / 8 : Nat) : Int) < (z : Int)
    · rw [rawR_end hpos hend]
      rw [if_pos (by omega)]
      exact ⟨4, rfl, rfl, (m5.tr (.rd e6)).ext⟩
    · rw [rawR_ok hpos hend] at h7
      exact absurd rfl h7
  rintro r _ ⟨h7, rfl, rfl⟩
  by_cases hend : ((s.size - ((p + 7) / 8 * 8 + 16 + 16) / 8 : Nat) : Int) < (z : Int)
  · rw [rawR_end hpos hend] at h7
    exact absurd h7 (by show ¬ (4 : Int) = 0; decide)
  rw [rawR_ok hpos hend] at h6 ⊢
  rw [if_neg (by omega)]
  simp only [Int.toNat_natCast] at h6 ⊢
  have H6 := H5.read e6 ⟨by omega, way5, hw5, h6⟩
  have hsz : (s.extract (((p + 7) / 8 * 8 + 16 + 16) / 8) (((p + 7) / 8 * 8 + 16 + 16) / 8 + z)).size = z := by rw [ByteArray.size_extract]; omega
  have hbig := h.big
  obtain ⟨o1, w7, hrun, hrow, hext, hown⟩ := app_str (ty := 29) H6.row (s.extract (((p + 7) / 8 * 8 + 16 + 16) / 8) (((p + 7) / 8 * 8 + 16 + 16) / 8 + z)) (by rw [hsz]; omega)
  refine ⟨H6.blk, o1, w7, hrun, Nn.of ?_⟩
  simp only [add_lit, Nat.zero_add]
  refine H6.put (by rw [List.length_append, ← size_list, hsz]; omega) hext hrow hown fun w8 H8 m8 => ?_
  exact ⟨o1, _, _, rfl, H8, (m5.tr (.rd e6)).tr m8⟩
end
end Inf
end Go.Proofs.YtjkoafjnmkchdaaGreatDoor
