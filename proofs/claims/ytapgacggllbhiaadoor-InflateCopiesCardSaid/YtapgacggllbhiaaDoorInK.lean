/- Inflate: the program's dynamic and fixed blocks, block, All. Conditions: sizes, the laid variables. -/
import Derived.Test.YtapgacggllbhiaaDoorInJ
namespace Go.Proofs.YtapgacggllbhiaaDoor
namespace Inf
open Sh Bit
set_option linter.unusedVariables false
set_option linter.unusedSimpArgs false
set_option maxRecDepth 4000
set_option maxHeartbeats 2000000
theorem chk_fixL : chk fixL = 0 := by decide +kernel
theorem chk_fixD : chk fixD = 0 := by decide +kernel
/-- Lengths that are read are not negative. -/
theorem lensF_nn {s : ByteArray} {lens l2 : List Int} {many q : Nat} : ∀ (k : Nat) (l : List Int) (p : Nat), (∀ x ∈ l, 0 ≤ x) → lensF lens s many k l p = .ok (l2, q) → ∀ x ∈ l2, 0 ≤ x
  | 0, _, _, _, h => by cases h
  | k + 1, l, p, hl, h => by
    unfold lensF at h
    split at h
    · cases h; exact hl
    · split at h
      · cases h
      · split at h
        · exact lensF_nn k _ _ (fun x hx => by
            rcases List.mem_append.1 hx with hx | hx
            · exact hl x hx
            · rw [List.mem_singleton.1 hx]; omega) h
        · split at h
          · cases h
          · split at h
            · cases h
            · split at h
              · cases h
              · refine lensF_nn k _ _ (fun x hx => ?_) h
                rcases List.mem_append.1 hx with hx | hx
                · exact hl x hx
                · rw [List.eq_of_mem_replicate hx]
                  split
                  · by_cases hz : l.length - 1 < l.length
                    · exact getD_in (P := fun x => 0 ≤ x) hl hz
                    · rw [List.getD_eq_getElem?_getD, List.getElem?_eq_none (by omega)]
                      exact Int.le_refl _
                  · exact Int.le_refl _
theorem IV.take {w : World} {s : Slc} {l : List Int} (h : IV w s l) {n : Nat} (hn : n ≤ l.length) : IV w (s.cut 1 0 n s.cap) (l.take n) := by
  refine ⟨?_, ?_, fun j v hj => ?_⟩
  · show n - 0 = _
    rw [List.length_take]; omega
  · rw [ints_len, List.length_take]
    show _ = (n - 0) * 1
    omega
  · have hjl : j < (l.take n).length := by
      have := (List.getElem?_eq_some_iff.1 hj).1
      rw [ints_len] at this
      exact this
    rw [List.length_take] at hjl
    obtain ⟨a, ha, hc⟩ := h.2.2 j v (by
      rw [← hj]
      unfold ints
      rw [List.getElem?_map, List.getElem?_map, List.getElem?_take_of_lt (by omega)])
    refine ⟨a, ?_, hc⟩
    show (if s.cap = 0 then s.p else s.p.map (·.add (0 * 1))) = _
    split
    · exact ha
    · rw [ha, Nat.zero_mul]
      show some (a.add 0) = _
      have e : a.add 0 = a := by unfold Addr.add; split <;> (try split) <;> simp_all
      rw [e]
section
variable {w : World} {fb rb N : Nat} {o : Slc} {s : ByteArray} {out : List UInt8} {p most : Nat}
theorem FS.sep {w0 w1 : World} {lo hi : Nat} (h : FS w0 fb rb o s out p most) (hlo : w0.heap.size ≤ lo) (hhi : hi ≤ w1.heap.size) : Sep lo hi fb rb o w1 :=
  ⟨.inl (Nat.lt_of_lt_of_le h.blk.lt hlo), .inl (Nat.lt_of_lt_of_le h.rd.lt hlo), fun j hj => .inl (Nat.lt_of_lt_of_le (h.row.own_lt hj) hlo), hhi⟩
theorem TB.no {w w1 : World} {lo hi b : Nat} {lens : List Int} (h : TB w lo hi b lens) (he : Ext (fun _ => False) w w1) : TB w1 lo hi b lens := h.keep he fun _ _ _ h => h
attribute [local irreducible] Ld St Nw Nn Lt LdS
theorem c_fixed (h : FS w fb rb o s out p most) (hs : s.size ≤ 1000000) : C47 (some (⟨fb, 0, none⟩ : Addr)) w (OkR fb rb w o s most (signsF s fixL fixD most (8 * s.size + 1) out p)) (ErR fb rb w o (signsF s fixL fixD most (8 * s.size + 1) out p)) := by
  refine T47 _ _ _ _ ?_
  unfold S47
  refine (c_Fixed w).mono ?_ fun _ _ h => h.elim
  rintro a b w1 ⟨ha, hb, e1⟩
  refine (c_new ha).mono ?_
  rintro r e w2 ⟨rfl, e2, _, h2⟩
  obtain ⟨t1, rfl, ht1⟩ := h2 chk_fixL
  rw [chk_fixL]
  refine (c_mustT _ 0 w2).mono ?_ fun v w h => absurd rfl h.2.1
  rintro r w2 ⟨_, rfl, rfl⟩
  refine (c_new (hb.keep e2)).mono ?_
  rintro r e w3 ⟨rfl, e3, _, h3⟩
  obtain ⟨t2, rfl, ht2⟩ := h3 chk_fixD
  rw [chk_fixD]
  refine (c_mustT _ 0 w3).mono ?_ fun v w h => absurd rfl h.2.1
  rintro r w3 ⟨_, rfl, rfl⟩
  have E := (e1.tr e2).tr e3
  have z1 := e1.size
  have z2 := e2.size
  have z3 := e3.size
  refine (c_coded (h.keep E) hs (ht1.no e3) (chk_lok chk_fixL) (h.sep (by omega) (by omega)) ht2 (chk_lok chk_fixD) (h.sep (by omega) (by omega))).mono ?_ ?_
  · rintro w4 ⟨o1, out1, q, h1, h2, h3⟩
    exact ⟨o1, out1, q, h1, h2, (Mv.no E).tr h3⟩
  · rintro v w4 ⟨e, h1, h2, h3⟩
    exact ⟨e, h1, h2, (Mv.no E).er h3⟩
def dynR (s : ByteArray) (most : Nat) (out : List UInt8) (p : Nat) : Except Int (List UInt8 × Nat) := match dyn s p with
  | .error e => .error e
  | .ok (a, b, q) => signsF s a b most (8 * s.size + 1) out q
theorem order_lt : ∀ i, i < 19 → order.getD i 0 < 19 := by decide
theorem c_dynamic (h : FS w fb rb o s out p most) (hs : s.size ≤ 1000000) (hL : Laid N w) (hN : Low N fb rb o) : C48 (some (⟨fb, 0, none⟩ : Addr)) w (OkR fb rb w o s most (dynR s most out p)) (ErR fb rb w o (dynR s most out p)) := by
  refine T48 _ _ _ _ ?_
  unfold S48
  have h32 : (2 : Int) ^ 5 = 32 := by decide
  have h16 : (2 : Int) ^ 4 = 16 := by decide
  generalize hR : dynR s most out p = R0
  unfold dynR dyn at hR
  have rdx : ∀ {a b : World}, Ext (fun _ => False) a b → Ext (· = rb) a b := fun h => h.mono fun _ _ e => e.elim
  refine (c_bits (n := 5) (by omega) h hs).mono ?_ ?_
  rotate_left
  · rintro v w1 ⟨hn, rfl, e1⟩
    rw [hn] at hR
    exact ⟨4, hR.symm, rfl, (Mv.rd e1).ext⟩
  rintro hl w1 ⟨p1, hn1, H1, e1⟩
  rw [hn1] at hR
  dsimp only at hR
  obtain ⟨a0, a1, a2, a3⟩ := num_bd hn1
  rw [i64_id (n := hl + 257) (by omega)]
  refine (c_need _ 3 _).mono ?_ ?_
  rotate_left
  · rintro v w1 ⟨rfl, h3, rfl⟩
    have h3 := of_decide_eq_false h3
    rw [if_pos (by omega)] at hR
    exact ⟨3, hR.symm, rfl, (Mv.rd e1).ext⟩
  rintro w1 ⟨h3, rfl⟩
  have h3 := of_decide_eq_true h3
  rw [if_neg (by omega)] at hR
  refine (c_bits (n := 5) (by omega) H1 hs).mono ?_ ?_
  rotate_left
  · rintro v w2 ⟨hn, rfl, e2⟩
    rw [hn] at hR
    exact ⟨4, hR.symm, rfl, (Mv.rd (e1.tr e2)).ext⟩
  rintro hd w2 ⟨p2, hn2, H2, e2⟩
  rw [hn2] at hR
  dsimp only at hR
  obtain ⟨b0, b1, b2, b3⟩ := num_bd hn2
  rw [i64_id (n := hd + 1) (by omega)]
  refine (c_need _ 3 _).mono ?_ ?_
  rotate_left
  · rintro v w2 ⟨rfl, h4, rfl⟩
    have h4 := of_decide_eq_false h4
    rw [if_pos (by omega)] at hR
    exact ⟨3, hR.symm, rfl, (Mv.rd (e1.tr e2)).ext⟩
  rintro w2 ⟨h4, rfl⟩
  have h4 := of_decide_eq_true h4
  rw [if_neg (by omega)] at hR
  have E2 := e1.tr e2
  obtain ⟨hl, rfl⟩ := Int.eq_ofNat_of_zero_le a0
  obtain ⟨hd, rfl⟩ := Int.eq_ofNat_of_zero_le b0
  have hfb2 := H2.blk.lt
  have hrb2 := H2.rd.lt
  refine (Hn.start w2).nw fun w3 H => ?_
  simp only [List.nil_append] at H
  have H : Hn w2 w3 [(w2.heap.size, ints (List.replicate 19 0), 106)] := H
  refine (c_bits (n := 4) (by omega) (H2.keep H.ext) hs).mono ?_ ?_
  rotate_left
  · rintro v w4 ⟨hn, rfl, e4⟩
    rw [hn] at hR
    exact ⟨4, hR.symm, rfl, (Mv.rd ((E2.tr (rdx H.ext)).tr e4)).ext⟩
  rintro hc w4 ⟨p4, hn4, H4, e4⟩
  rw [hn4] at hR
  dsimp only at hR
  obtain ⟨c0, c1, c2, c3⟩ := num_bd hn4
  obtain ⟨hc, rfl⟩ := Int.eq_ofNat_of_zero_le c0
  have E4 := (E2.tr (rdx H.ext)).tr e4
  rw [i64_id (n := (hc : Int) + 4) (by omega), show ((hc : Int) + 4).toNat = hc + 4 by omega]
  have cut1 : Slc.cut (⟨some (⟨0, 0, none⟩ : Addr), 19, 19⟩ : Slc) 1 0 (hc + 4) 19 = ⟨some ⟨0, 0, none⟩, hc + 4, 19⟩ := by
    unfold Slc.cut
    rw [if_neg (by omega)]
    simp only [Option.map_some, add_lit, Nat.zero_add, Nat.zero_mul, Nat.sub_zero]
  have cut2 : Slc.cut (⟨some (⟨w2.heap.size, 0, none⟩ : Addr), 19, 19⟩ : Slc) 1 0 19 19 = ⟨some ⟨w2.heap.size, 0, none⟩, 19, 19⟩ := by
    unfold Slc.cut
    rw [if_neg (by omega)]
    simp only [Option.map_some, add_lit, Nat.zero_add, Nat.zero_mul, Nat.sub_zero]
  rw [cut1]
  refine ⟨by omega, by omega, Lt.of ?_⟩
  have hB4 : Blk w4 w2.heap.size (ints (List.replicate 19 0)).toArray 106 := e4.blk (H.get 0 rfl) fun e => by have e : w2.heap.size = rb := e; omega
  generalize hR19 : lens19 s (order.take (hc + 4)) (List.replicate 19 0) p4 = R19
  simp only [Int.toNat_natCast] at hR
  rw [hR19] at hR
  refine ⟨fun n st w5 => ∃ (i : Nat) (l : List Int) (q : Nat), st = (i : Int) ∧ i ≤ hc + 4 ∧ n = hc + 4 - i ∧ l.length = 19 ∧ Blk w5 w2.heap.size (ints l).toArray 106 ∧ FS w5 fb rb o s out q most ∧ Ext (· = rb) w w5 ∧ lens19 s ((order.take (hc + 4)).drop i) l q = R19, hc + 4, ⟨0, _, p4, rfl, by omega, rfl, by simp, hB4, H4, E4, hR19⟩, ?_⟩
  rintro n st w5 ⟨i, l, q, rfl, hi, rfl, hl19, hB5, H5, E5, hres⟩
  unfold S48L1
  rw [i64_id (n := (hc : Int) + 4) (by omega), show ((hc : Int) + 4).toNat = hc + 4 by omega, cut1]
  have hL5 := hL.keep E5 fun j e => by have e : j = rb := e; rw [e]; exact hN.r
  refine Br.dec (fun q1 => ?_) fun q1 => ?_
  · have q1 : i < hc + 4 := by have q1 : (i : Int) < ((hc + 4 : Nat) : Int) := q1; omega
    refine ⟨by omega, by show (i : Int) < ((hc + 4 : Nat) : Int); omega, Nn.of ?_⟩
    simp only [add_lit, Int.toNat_natCast, Nat.mul_one, Nat.zero_add]
    refine Ld.mk (hL5.2.2.1 i (by omega)) ?_
    have hol := order_lt i (by omega)
    have hdrop : (order.take (hc + 4)).drop i = order.getD i 0 :: (order.take (hc + 4)).drop (i + 1) := by
      have hlen : (order.take (hc + 4)).length = hc + 4 := by rw [List.length_take]; show min (hc + 4) 19 = _; omega
      rw [List.drop_eq_getElem_cons (by omega)]
      congr 1
      rw [List.getElem_take, List.getD_eq_getElem?_getD, List.getElem?_eq_getElem (by show i < 19; omega)]
      rfl
    rw [hdrop] at hres
    unfold lens19 at hres
    refine (c_bits (n := 3) (by omega) H5 hs).mono ?_ ?_
    rotate_left
    · rintro v w6 ⟨hn, rfl, e6⟩
      rw [hn] at hres
      rw [← hres] at hR
      exact ⟨4, hR.symm, rfl, (Mv.rd (E5.tr e6)).ext⟩
    rintro x w6 ⟨q6, hn6, H6, e6⟩
    rw [hn6] at hres
    dsimp only at hres
    refine ⟨by omega, by omega, ?_⟩
    have hB6 := e6.blk hB5 fun e => by have e : w2.heap.size = rb := e; omega
    refine (Hx.one (F := (· = w2.heap.size)) hB6).st 0 rfl (by rw [List.size_toArray, ints_len]; omega) (.inl rfl) fun w7 H7 => ?_
    have hB7 : Blk w7 w2.heap.size (ints (l.set (order.getD i 0) x)).toArray 106 := by
      have := H7.get 0 rfl
      rw [← ints_set]
      simpa using this
    have hz := E2.size
    refine ⟨hc + 4 - (i + 1), by omega, i + 1, l.set (order.getD i 0) x, q6, by rw [i64_id (by omega)]; rfl, by omega, rfl, by rw [List.length_set]; exact hl19, hB7, ?_, ?_, hres⟩
    · have hne1 : fb ≠ w2.heap.size := by omega
      exact ⟨H7.ext.blk H6.blk fun e => hne1 e, H6.rd.keep H7.ext fun e => by have e : rb = w2.heap.size := e; omega, H6.row.keep H7.ext fun j hj e => by have := H2.row.own_lt hj; have e : j = w2.heap.size := e; omega, H6.ne, H6.nf, H6.nr, H6.len, H6.big⟩
    · exact (E5.tr e6).trans H7.ext (fun _ h => h) fun j hj e => by have e : j = w2.heap.size := e; omega
  · have q1 : ¬ i < hc + 4 := by have q1 : ¬ (i : Int) < ((hc + 4 : Nat) : Int) := q1; omega
    have hi4 : i = hc + 4 := by omega
    subst hi4
    have hd0 : (order.take (hc + 4)).drop (hc + 4) = [] := List.drop_eq_nil_of_le (by rw [List.length_take]; omega)
    rw [hd0] at hres
    have hres : Except.ok (l, q) = R19 := hres
    rw [← hres] at hR
    dsimp only at hR
    rw [cut2]
    have hz2 := E2.size
    have hz5 := E5.size
    refine (c_new (IV.blk hB5 hl19.symm)).mono ?_
    rintro r e w6 ⟨rfl, e6, _, h6⟩
    have H6 := H5.keep e6
    have E6 := E5.tr (rdx e6)
    refine (c_mustT _ _ w6).mono ?_ ?_
    rotate_left
    · rintro v w6 ⟨rfl, h7, rfl⟩
      rw [if_pos h7] at hR
      exact ⟨_, hR.symm, rfl, (Mv.rd E6).ext⟩
    rintro r w6 ⟨h7, rfl, rfl⟩
    rw [if_neg (fun hh => hh h7)] at hR
    obtain ⟨tb, rfl, ht⟩ := h6 h7
    have hL6 := hL5.keep e6 fun j e => e.elim
    rw [i64_id (n := (hl : Int) + 257) (by omega), i64_id (n := (hd : Int) + 1) (by omega), i64_id (n := (hl : Int) + 257 + ((hd : Int) + 1)) (by omega), show (hl : Int) + 257 + ((hd : Int) + 1) = ((hl + 257 + (hd + 1) : Nat) : Int) by omega]
    have hz6 := e6.size
    refine (c_lengths H6 hs ht (chk_lok h7) hl19 (H5.sep (Nat.le_refl _) (Nat.le_refl _)) hL6 hN (by omega)).mono ?_ ?_
    rotate_left
    · rintro v w7 ⟨e, h8, rfl, e7⟩
      rw [h8] at hR
      exact ⟨e, hR.symm, rfl, (Mv.rd E6).er e7⟩
    rintro r w7 ⟨l2, q2, hlf, hv2, hcap2, hown2, H7, e7⟩
    rw [hlf] at hR
    dsimp only at hR
    obtain ⟨f1, f2, f3⟩ := lensF_ok _ _ _ H6.rd.1 (Nat.zero_le _) hlf
    have hnn := lensF_nn _ _ _ (fun x hx => by cases hx) hlf
    have E7 := E6.tr e7
    have hln := hv2.1
    obtain ⟨a, ha, hca⟩ := hv2.get (i := 256) (by omega)
    rw [ha]
    refine ⟨by omega, by omega, Nn.of (Ld.mk hca ?_)⟩
    have h256 : 0 ≤ l2.getD 256 0 := getD_in (P := fun x => 0 ≤ x) hnn (by omega)
    refine (c_need _ 13 _).mono ?_ ?_
    rotate_left
    · rintro v w7 ⟨rfl, h8, rfl⟩
      have h8 := of_decide_eq_false h8
      rw [if_pos (by omega)] at hR
      exact ⟨13, hR.symm, rfl, (Mv.rd E7).ext⟩
    rintro w7 ⟨h8, rfl⟩
    have h8 := of_decide_eq_true h8
    rw [if_neg (by omega)] at hR
    rw [show (hl : Int) + 257 = ((hl + 257 : Nat) : Int) by omega, Int.toNat_natCast]
    refine ⟨by omega, by omega, by omega, by omega, ?_⟩
    have hvt := (hv2.take (n := hl + 257) (by omega)).keep ((Ext.refl _ _).drew)
    have H7 := H7.keep (Ext.refl _ _).drew
    have E7 : Ext (· = rb) w w7.drew := E7.drew
    refine (c_new hvt).mono ?_
    rintro r2 e w8 ⟨rfl, e8, _, h9⟩
    refine (c_mustT _ _ w8).mono ?_ ?_
    rotate_left
    · rintro v w8 ⟨rfl, h10, rfl⟩
      rw [if_pos h10] at hR
      exact ⟨_, hR.symm, rfl, (Mv.rd (E7.tr (rdx e8))).ext⟩
    rintro r2 w8 ⟨h10, rfl, rfl⟩
    rw [if_neg (fun hh => hh h10)] at hR
    obtain ⟨t1, rfl, ht1⟩ := h9 h10
    have hvd := ((hv2.keep (Ext.refl _ _).drew).keep e8).drop hcap2 (d := hl + 257) (by omega)
    refine (c_new hvd.1).mono ?_
    rintro r3 e w9 ⟨rfl, e9, _, h11⟩
    refine (c_mustT _ _ w9).mono ?_ ?_
    rotate_left
    · rintro v w9 ⟨rfl, h12, rfl⟩
      rw [if_pos h12] at hR
      exact ⟨_, hR.symm, rfl, (Mv.rd ((E7.tr (rdx e8)).tr (rdx e9))).ext⟩
    rintro r3 w9 ⟨h12, rfl, rfl⟩
    rw [if_neg (fun hh => hh h12)] at hR
    obtain ⟨t2, rfl, ht2⟩ := h11 h12
    have z8 := e8.size
    have z9 := e9.size
    have H9 := (H7.keep e8).keep e9
    have hcd := c_coded H9 hs (ht1.no e9) (chk_lok h10) (H7.sep (Nat.le_refl _) (by omega)) ht2 (chk_lok h12) (H7.sep (by omega) (Nat.le_refl _))
    dsimp only at hR
    rw [hR] at hcd
    have E9 := (E7.tr (rdx e8)).tr (rdx e9)
    refine hcd.mono ?_ ?_
    · rintro w10 ⟨o1, out1, q10, g1, g2, g3⟩
      exact ⟨o1, out1, q10, g1, g2, (Mv.rd E9).tr g3⟩
    · rintro v w10 ⟨e, g1, g2, g3⟩
      exact ⟨e, g1, g2, (Mv.rd E9).er g3⟩
end
end Inf
end Go.Proofs.YtapgacggllbhiaaDoor
