/- Codes: a sign is read, with the place after it, on both sides. Conditions: sizes. -/
import Derived.Test.YtapgacggllbhiaaCdD
namespace Go.Proofs.Ytapgacggllbhiaa
namespace Inf
open Sh Bit
set_option linter.unusedVariables false
set_option linter.unusedSimpArgs false
set_option maxRecDepth 4000
set_option maxHeartbeats 2000000
/-- One sign of a code: what is read, the error, the place after it. -/
def sgo3 (lens : List Int) (s : ByteArray) : Nat → Nat → Int → Int → Nat → Int × Int × Nat
  | 0, _, _, _, p => (0, 13, p)
  | k + 1, n, code, first, p => if 8 * s.size ≤ p then (0, 4, p)
    else if 2 * code + bt s 1 p - 2 * first < (cnt lens n : Int) then ((((idxs lens n).getD (2 * code + bt s 1 p - 2 * first).toNat 0 : Nat) : Int), 0, p + 1)
    else sgo3 lens s k (n + 1) (2 * code + bt s 1 p) (2 * first + (cnt lens n : Int)) (p + 1)
theorem sgo3_zero {lens : List Int} {b : ByteArray} {n : Nat} {c f : Int} {p : Nat} : sgo3 lens b 0 n c f p = (0, 13, p) := rfl
def sym3 (lens : List Int) (s : ByteArray) (p : Nat) : Int × Int × Nat := sgo3 lens s (longest lens) 1 0 0 p
theorem sgo3_le {lens : List Int} {s : ByteArray} : ∀ (k n : Nat) (c f : Int) (p : Nat), p ≤ 8 * s.size → (sgo3 lens s k n c f p).2.2 ≤ 8 * s.size
  | 0, n, c, f, p, h => h
  | k + 1, n, c, f, p, h => by
    unfold sgo3
    split
    · exact h
    · split
      · show p + 1 ≤ _; omega
      · exact sgo3_le k _ _ _ _ (by omega)
theorem sgo3_ok {lens : List Int} {s : ByteArray} {g q : Nat} : ∀ (k n : Nat) (c f : Int) (p : Nat), sgo lens s k n c f p = .ok (g, q) → sgo3 lens s k n c f p = ((g : Int), 0, q)
  | 0, n, c, f, p, h => by cases h
  | k + 1, n, c, f, p, h => by
    unfold sgo at h
    unfold sgo3
    split
    · rename_i h1
      rw [if_pos h1] at h
      cases h
    · rename_i h1
      rw [if_neg h1] at h
      split
      · rename_i h2
        rw [if_pos h2] at h
        cases h
        rfl
      · rename_i h2
        rw [if_neg h2] at h
        exact sgo3_ok k _ _ _ _ h
theorem sym3_ok {lens : List Int} {s : ByteArray} {p g q : Nat} (h : sym lens s p = .ok (g, q)) : sym3 lens s p = ((g : Int), 0, q) := sgo3_ok _ _ _ _ _ h
attribute [local irreducible] Ld St Nw Nn Lt LdS
section
variable {w : World} {s : Slc} {lens : List Int}
theorem c_low1 {b : Nat} {t : ByteArray} {p : Nat} (h : RB w b t p) (hs : t.size ≤ 1000000) : C38 (at0 b) 1 w fun v e w1 => Ext (· = b) w w1 ∧ ((p + 1 ≤ 8 * t.size ∧ v = bt t 1 p ∧ e = 0 ∧ RB w1 b t (p + 1)) ∨ (8 * t.size ≤ p ∧ v = 0 ∧ e = 4 ∧ RB w1 b t p)) := by
  obtain ⟨hp, way, hw, hr⟩ := h
  refine (c_low hr hp hs (1 : Int)).mono ?_
  rintro v e w1 ⟨rfl, rfl, h3, he⟩
  refine ⟨he, ?_⟩
  by_cases h1 : p + 1 ≤ 8 * t.size
  · rw [tkR_ok (by omega) (by omega)] at h3 ⊢
    refine .inl ⟨h1, ?_, rfl, h1, 1, .inr rfl, h3⟩
    show tk t 1 p 1 = bt t 1 p
    show (if (1 : Int) = 1 then tk t 1 p 0 + bt t 1 (p + 0) * 2 ^ 0 else _) = _
    rw [if_pos rfl, Nat.add_zero]
    show (0 : Int) + bt t 1 p * 1 = _
    omega
  · rw [tkR_end (by omega) (by omega)] at h3 ⊢
    exact .inr ⟨by omega, rfl, rfl, hp, way, hw, h3⟩
theorem c_tread3 {lo hi tb rb p : Nat} {b : ByteArray} (ht : TB w lo hi tb lens) (hk : Lok lens) (hr : RB w rb b p) (hs : b.size ≤ 1000000) (hrb : rb < lo ∨ hi ≤ rb) :
    C21 (some (⟨tb, 0, none⟩ : Addr)) (at0 rb) w fun v e w1 => Ext (· = rb) w w1 ∧ v = (sym3 lens b p).1 ∧ e = (sym3 lens b p).2.1 ∧ RB w1 rb b (sym3 lens b p).2.2 := by
  refine T21 _ _ _ _ ?_
  unfold S21
  obtain ⟨s1, s2, s3, h1, h2, h3, h4, h5, h6, h7, h8, h9⟩ := ht
  have hlen := hk.len
  have h15 := long15 hk
  refine Br.f rfl (Br.f rfl (Nn.of ?_))
  simp only [add_lit, Nat.zero_add]
  refine Ld.of h1 (o := 34) (x := s3) rfl ?_
  have hne : tb ≠ rb := by omega
  refine ⟨fun k st w5 => ∃ (n : Nat) (c : Int) (q : Nat) (left : Slc), st = (left, c, (n : Int)) ∧ 1 ≤ n ∧ n ≤ 16 ∧ k = 16 - n ∧ IV w5 left (ordI (ordR lens (16 - n) n)) ∧ left.len ≤ left.cap ∧ (∀ j, left.own j → s3.own j) ∧ fs (cn lens) n ≤ 2 * c ∧ 0 ≤ fs (cn lens) n ∧ 0 ≤ c ∧ 2 * c + 2 ≤ 2 ^ n ∧ ∃ f : Int, fs (cn lens) n = 2 * f ∧ sgo3 lens b (longest lens + 1 - n) n c f q = sym3 lens b p ∧ RB w5 rb b q ∧ Ext (· = rb) w w5, 15, ⟨1, 0, p, s3, rfl, by omega, by omega, rfl, ?_, h5, fun j hj => hj, by show (0 : Int) ≤ 2 * 0; decide, by show (0 : Int) ≤ 0; decide, Int.le_refl _, by decide, 0, rfl, ?_, hr, Ext.refl _ _⟩, ?_⟩
  · have e := ordT_R lens 15 0
    rw [Nat.zero_add] at e
    have e : ordT lens 15 = ordR lens 15 1 := e
    rw [← e]
    exact h4
  · rw [Nat.add_sub_cancel]; rfl
  rintro k st w5 ⟨n, c, q, left, rfl, hn1, hn16, rfl, hv, hcap, hown, hfc, hf0, hc0, hc2, f, hff, hsg, hrd, he⟩
  unfold S21L1
  dsimp only
  have hlv := hv.1
  rw [ordI_len] at hlv
  have hp16 := two_pow_le (show n ≤ 16 by omega)
  have h16 : (2 : Int) ^ 16 = 65536 := by decide
  refine Br.dec (fun q1 => ?_) fun q1 => ?_
  · have hnl : n ≤ longest lens := by
      by_cases hh : n ≤ longest lens
      · exact hh
      · rw [ordR_nil hk _ n (by omega)] at hlv
        simp only [List.length_nil] at hlv
        omega
    obtain ⟨m, hm⟩ : ∃ m, longest lens + 1 - n = m + 1 := ⟨longest lens - n, by omega⟩
    rw [hm] at hsg
    unfold sgo3 at hsg
    have hb := bt_bd b 1 q
    refine (c_low1 hrd hs).mono ?_
    rintro v e w6 ⟨he6, hcase⟩
    have he' : Ext (· = rb) w w6 := he.tr he6
    rcases hcase with ⟨hle, rfl, rfl, hrb2⟩ | ⟨herr', rfl, rfl, hrb2⟩
    · rw [if_neg (by omega)] at hsg
      have hB := he'.blk h1 hne
      have hcn : cn lens n = (cnt lens n : Int) := by unfold cn; rw [if_neg (by omega)]
      have hcl : cnt lens n ≤ lens.length := cntT_le lens n lens.length
      refine Br.f rfl (Nn.of ⟨by omega, by omega, ?_⟩)
      simp only [add_lit, Int.toNat_natCast, Nat.mul_one, Nat.zero_add]
      refine Ld.of hB (o := 18 + n) (x := fs (cn lens) n) (by rw [List.getElem?_toArray]; exact tc_f _ _ _ _ _ (by omega)) (Nn.of ⟨by omega, by omega, ?_⟩)
      simp only [add_lit, Int.toNat_natCast, Nat.mul_one, Nat.zero_add]
      refine Ld.of hB (o := 2 + n) (x := cn lens n) (by rw [List.getElem?_toArray]; exact tc_n _ _ _ _ _ (by omega)) ?_
      rw [show c * 2 ^ 1 = c * 2 by simp, i64_id (n := c * 2) (by omega), ior_high hc0 (by omega) hb, i64_id (n := 2 * c + bt b 1 q - fs (cn lens) n) (by omega), hcn, hff]
      have hrest : ordR lens (16 - n) n = idxs lens n ++ ordR lens (16 - (n + 1)) (n + 1) := by
        rw [show 16 - n = (16 - (n + 1)) + 1 by omega]
        rfl
      have hil : (idxs lens n).length = cnt lens n := rfl
      rw [hrest, List.length_append, hil] at hlv
      refine Lt.of (Br.dec (fun q3 => ⟨by omega, by omega, ?_⟩) fun q3 => Nn.of ⟨by omega, by omega, ?_⟩)
      · rw [if_pos q3] at hsg
        obtain ⟨z, hz⟩ : ∃ z : Nat, 2 * c + bt b 1 q - 2 * f = (z : Int) := ⟨(2 * c + bt b 1 q - 2 * f).toNat, by omega⟩
        rw [hz] at hsg q3 ⊢
        rw [Int.toNat_natCast] at hsg ⊢
        have hv6 := hv.keepF he6 fun j hj e => by have := h9 j (hown j hj); have e : j = rb := e; omega
        obtain ⟨a, ha, hc⟩ := hv6.get (i := z) (by rw [ordI_len, hrest, List.length_append, hil]; omega)
        rw [ha]
        rw [Nat.mul_one] at hc
        refine Nn.of (Ld.mk hc ⟨he', ?_, by rw [← hsg], by rw [← hsg]; exact hrb2⟩)
        rw [← hsg, hrest, ordI_app, getD_app (by rw [ordI_len, hil]; omega), ordI_get]
      · rw [if_neg q3] at hsg
        simp only [add_lit, Int.toNat_natCast, Nat.mul_one, Nat.zero_add]
        refine Ld.of hB (o := 2 + n) (x := cn lens n) (by rw [List.getElem?_toArray]; exact tc_n _ _ _ _ _ (by omega)) ?_
        rw [hcn, Int.toNat_natCast]
        have hn15 : n ≤ 15 := by omega
        have hv6 := hv.keepF he6 fun j hj e => by have := h9 j (hown j hj); have e : j = rb := e; omega
        obtain ⟨d1, d2⟩ := hv6.drop hcap (d := cnt lens n) (by rw [ordI_len, hrest, List.length_append, hil]; omega)
        have hfn : fs (cn lens) (n + 1) = 2 * (fs (cn lens) n + cn lens n) := by
          obtain ⟨x, rfl⟩ : ∃ x, n = x + 1 := ⟨n - 1, by omega⟩
          rfl
        rw [i64_id (n := (n : Int) + 1) (by omega)]
        refine ⟨by omega, by omega, 16 - (n + 1), by omega, n + 1, _, q + 1, _, rfl, by omega, by omega, rfl, ?_, d2, fun j hj => hown j (cut_own hj), ?_, ?_, by omega, ?_, 2 * f + (cnt lens n : Int), ?_, ?_, hrb2, he'⟩
        · rw [hrest, ordI_app, ← hil, ← ordI_len, List.drop_left] at d1
          rw [ordI_len, hil] at d1
          exact d1
        · rw [hfn, hcn, hff]; omega
        · rw [hfn, hcn, hff]; omega
        · rw [two_pow_succ]; omega
        · rw [hfn, hcn, hff]
        · rw [show longest lens + 1 - (n + 1) = m by omega]; exact hsg
    · rw [if_pos herr'] at hsg
      exact Br.t rfl ⟨he', by rw [← hsg], by rw [← hsg], by rw [← hsg]; exact hrb2⟩
  · have hnl : longest lens + 1 - n = 0 := by
      by_cases hh : n ≤ longest lens
      · have := ordR_ne hk (16 - n) n hn1 hh (by omega)
        omega
      · omega
    rw [hnl, sgo3_zero] at hsg
    exact ⟨he, by rw [← hsg], by rw [← hsg], by rw [← hsg]; exact hrd⟩
theorem r_sym3 {b : ByteArray} {p : Nat} (h : IV w s lens) (hk : Lok lens) (hs : b.size ≤ 1000000) (hp : p ≤ 8 * b.size) : C22 s b (p : Int) w fun v a e w1 => v = (sym3 lens b p).1 ∧ e = (sym3 lens b p).2.1 ∧ a = ((sym3 lens b p).2.2 : Int) ∧ Ext (fun _ => False) w w1 := by
  refine T22 _ _ _ _ _ ?_
  unfold S22
  refine (Hn.start w).nw fun w2 H => ?_
  simp only [List.nil_append] at H
  have hlen := hk.len
  refine ⟨fun n st w4 => ∃ i : Nat, st = (longT lens i, (i : Int)) ∧ i ≤ lens.length ∧ n = lens.length - i ∧ Hn w w4 [(w.heap.size, lst16 (fun n => (cntT lens n i : Int)), 50)], lens.length, ⟨0, rfl, by omega, rfl, H⟩, ?_⟩
  rintro n st w4 ⟨i, rfl, hi, rfl, H⟩
  unfold S22L2
  dsimp only
  rw [h.1]
  refine Br.dec (fun q => ⟨by omega, by omega, ?_⟩) fun q => ?_
  · have hlt : i < lens.length := by omega
    obtain ⟨a, ha, hc⟩ := (h.keep H.ext).get hlt
    rw [ha, Int.toNat_natCast]
    have hn := hk.nn i
    obtain ⟨m, hm⟩ := Int.eq_ofNat_of_zero_le hn.1
    have hcl := cntT_le lens m i
    refine Nn.of (Ld.mk hc ?_)
    rw [hm]
    simp only [add_lit, Int.toNat_natCast, Nat.mul_one, Nat.zero_add]
    refine ⟨by omega, by omega, H.ld 0 rfl (lst16_get _ (by omega)) ⟨by omega, by omega, H.st 0 rfl (by rw [lst16_len]; omega) fun w5 H => ⟨by omega, by omega, Nn.of (Ld.mk (x := lens.getD i 0) ?_ ?_)⟩⟩⟩
    · obtain ⟨a', ha', hc'⟩ := (h.keep H.ext).get hlt
      rw [ha] at ha'
      cases ha'
      rw [← hc', Nat.mul_one]
    · simp only [List.set_cons_zero, List.set_cons_succ] at H
      rw [i64_id (n := (cntT lens m i : Int) + 1) (by omega), lst16_set _ (by omega)] at H
      have e : upd (fun n => (cntT lens n i : Int)) m ((cntT lens m i : Int) + 1) = fun n => (cntT lens n (i + 1) : Int) := by
        funext j
        unfold upd
        dsimp only
        rw [cntT_succ, hm]
        by_cases hj : j = m
        · subst hj; rw [if_pos rfl, if_pos rfl]; rfl
        · rw [if_neg hj, if_neg (by omega)]
      rw [e] at H
      exact ⟨lens.length - (i + 1), by omega, i + 1, by rw [i64_id (by omega)]; rfl, by omega, rfl, H⟩
  · have : i = lens.length := by omega
    subst this
    obtain ⟨u1, u2, u3, u4, u5, u6⟩ := used_kr hk lens.length
    have hL : (longest lens : Int) = longT lens lens.length := by unfold longest; omega
    refine ⟨fun k st w5 => ∃ (n : Nat) (c f : Int) (q : Nat), st = ((q : Int), c, f, (n : Int)) ∧ n + k = longest lens + 1 ∧ 1 ≤ n ∧ q ≤ 8 * b.size ∧ 0 ≤ f ∧ f ≤ c ∧ 2 * c + 2 ≤ 2 ^ n ∧ sgo3 lens b k n c f q = sym3 lens b p ∧ Hn w w5 [(w.heap.size, lst16 (fun n => (cnt lens n : Int)), 50)], longest lens, ⟨1, 0, 0, p, rfl, by omega, by omega, hp, Int.le_refl _, Int.le_refl _, by decide, rfl, H⟩, ?_⟩
    rintro k st w5 ⟨n, c, f, q, rfl, hnk, hn1, hq, hf0, hfc, hc2, hsg, H⟩
    unfold S22L1
    dsimp only
    have hp15 := two_pow_le (show n ≤ 16 by omega)
    have h16 : (2 : Int) ^ 16 = 65536 := by decide
    refine Br.dec (fun q1 => ?_) fun q1 => ?_
    · obtain ⟨k, rfl⟩ : ∃ k', k = k' + 1 := ⟨k - 1, by omega⟩
      unfold sgo3 at hsg
      have hb := bt_bd b 1 q
      refine (r_bit hs (by omega) w5).mono ?_
      rintro r w6 ⟨hr, he⟩
      have H := H.keep he
      by_cases hend : 8 * b.size ≤ q
      · rw [if_pos hend] at hr hsg
        subst hr
        refine Br.t rfl ⟨by rw [← hsg], by rw [← hsg], by rw [← hsg], H.ext⟩
      · rw [if_neg hend] at hr hsg
        subst hr
        refine Br.dec (fun q2 => by omega) fun q2 => ?_
        rw [i64_id (n := 2 * c) (by omega), i64_id (n := 2 * f) (by omega), i64_id (n := 2 * c + bt b 1 q) (by omega), i64_id (n := 2 * c + bt b 1 q - 2 * f) (by omega)]
        simp only [add_lit, Int.toNat_natCast, Nat.mul_one, Nat.zero_add]
        refine Lt.of ⟨by omega, by omega, H.ld 0 rfl (lst16_get _ (by omega)) (Br.dec (fun q3 => Lt.of ?_) fun q3 => ⟨by omega, by omega, H.ld 0 rfl (lst16_get _ (by omega)) ?_⟩)⟩
        · rw [if_pos q3] at hsg
          obtain ⟨z, hz⟩ : ∃ z : Nat, 2 * c + bt b 1 q - 2 * f = (z : Int) := ⟨(2 * c + bt b 1 q - 2 * f).toNat, by omega⟩
          rw [hz] at hsg ⊢
          refine (r_place (h.keep H.ext) hlen n z (by omega)).mono ?_
          rintro r w7 ⟨rfl, rfl⟩
          rw [Int.toNat_natCast] at hsg
          refine ⟨by rw [← hsg], by rw [← hsg], by rw [← hsg, i64_id (by omega)]; rfl, H.ext⟩
        · rw [if_neg q3] at hsg
          have hcn := cntT_le lens n lens.length
          have hcn : cnt lens n ≤ lens.length := hcn
          rw [i64_id (n := 2 * f + (cnt lens n : Int)) (by omega), i64_id (n := (q : Int) + 1) (by omega), i64_id (n := (n : Int) + 1) (by omega)]
          refine ⟨k, by omega, n + 1, _, _, q + 1, rfl, by omega, by omega, by omega, by omega, by omega, ?_, hsg, H⟩
          rw [two_pow_succ]
          omega
    · have : k = 0 := by omega
      subst this
      refine ⟨by rw [← hsg]; rfl, by rw [← hsg]; rfl, by rw [← hsg]; rfl, H.ext⟩
end
end Inf
end Go.Proofs.Ytapgacggllbhiaa
