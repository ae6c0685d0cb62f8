/- Inflate: the program's tables: New, Read. Conditions: sizes. -/
import Derived.Test.YtapgacggllbhiaaInD
namespace Go.Proofs.Ytapgacggllbhiaa
namespace Inf
open Sh Bit
set_option linter.unusedVariables false
set_option linter.unusedSimpArgs false
set_option maxRecDepth 4000
set_option maxHeartbeats 2000000
theorem ordI_app (l m : List Nat) : ordI (l ++ m) = ordI l ++ ordI m := by unfold ordI; rw [List.map_append]
theorem ordI_len (l : List Nat) : (ordI l).length = l.length := by unfold ordI; simp
/-- The signs of k lengths from n on. -/
def ordR (lens : List Int) : Nat → Nat → List Nat
  | 0, _ => []
  | k + 1, n => idxs lens n ++ ordR lens k (n + 1)
theorem ordT_R (lens : List Int) : ∀ k l, ordT lens (l + k) = ordT lens l ++ ordR lens k (l + 1)
  | 0, l => by simp [ordR]
  | k + 1, l => by
    rw [show l + (k + 1) = (l + 1) + k by omega, ordT_R lens k (l + 1)]
    show (ordT lens l ++ idxs lens (l + 1)) ++ _ = ordT lens l ++ (idxs lens (l + 1) ++ ordR lens k (l + 1 + 1))
    rw [List.append_assoc]
theorem ordR_nil {lens : List Int} (hk : Lok lens) : ∀ k n, longest lens < n → ordR lens k n = []
  | 0, _, _ => rfl
  | k + 1, n, h => by
    have h1 : idxs lens n = [] := List.eq_nil_of_length_eq_zero (cnt_long hk h)
    show idxs lens n ++ ordR lens k (n + 1) = []
    rw [h1, ordR_nil hk k (n + 1) (by omega)]
    rfl
theorem long_cnt {lens : List Int} (hk : Lok lens) (h : 1 ≤ longest lens) : 0 < cnt lens (longest lens) := by
  rcases long_mem (lens := lens) lens.length with h0 | ⟨j, h1, h2⟩
  · unfold longest at h; rw [h0] at h; exact absurd h (by decide)
  · have hn := (used_kr hk lens.length).2.2.2.2.1
    have h3 : lens.getD j 0 = (longest lens : Int) := by rw [h2]; unfold longest; omega
    have := (idxs_at h3 h1).2
    omega
theorem ordR_ne {lens : List Int} (hk : Lok lens) : ∀ k n, 1 ≤ n → n ≤ longest lens → longest lens < n + k → 0 < (ordR lens k n).length
  | 0, n, _, h, h2 => by omega
  | k + 1, n, h0, h, h2 => by
    show 0 < (idxs lens n ++ ordR lens k (n + 1)).length
    rw [List.length_append]
    by_cases he : n = longest lens
    · have : (idxs lens n).length = cnt lens n := rfl
      have h3 := long_cnt hk (by omega)
      rw [← he] at h3
      omega
    · have := ordR_ne hk k (n + 1) (by omega) (by omega) (by omega)
      omega
theorem long15 {lens : List Int} (hk : Lok lens) : longest lens ≤ 15 := by
  have := (used_kr hk lens.length).2.2.2.2.2
  unfold longest
  omega
/-- The program's reader, that reads least significant bits first. -/
def RB (w : World) (b : Nat) (s : ByteArray) (p : Nat) : Prop := p ≤ 8 * s.size ∧ ∃ way : Int, (way = 0 ∨ way = 1) ∧ RdB w b s p way
theorem RB.keep {F : Nat → Prop} {w w' : World} {b : Nat} {s : ByteArray} {p : Nat} (h : RB w b s p) (he : Ext F w w') (hF : ¬ F b) : RB w' b s p := by
  obtain ⟨h1, way, h2, h3⟩ := h
  exact ⟨h1, way, h2, he.blk h3 hF⟩
theorem RB.lt {w : World} {b : Nat} {s : ByteArray} {p : Nat} (h : RB w b s p) : b < w.heap.size := by
  obtain ⟨h1, way, h2, h3⟩ := h
  exact Blk.lt h3
/-- What Low answers. -/
def NumR (s : ByteArray) (p n : Nat) (v e : Int) (q : Nat) : Prop := (num s p n = .ok (v, q) ∧ e = 0) ∨ (num s p n = .error 4 ∧ e = 4)
attribute [local irreducible] Ld St Nw Nn Lt LdS
section
variable {w : World} {s : Slc} {lens : List Int}
theorem c_lowN {b : Nat} {t : ByteArray} {p n : Nat} (h : RB w b t p) (hs : t.size ≤ 1000000) (hn : n ≤ 24) : C38 (at0 b) (n : Int) w fun v e w1 => Ext (· = b) w w1 ∧ ∃ q, NumR t p n v e q ∧ (e = 0 → RB w1 b t q) := by
  obtain ⟨hp, way, hw, hr⟩ := h
  refine (c_low hr hp hs (n : Int)).mono ?_
  rintro v e w1 ⟨rfl, rfl, h3, he⟩
  refine ⟨he, p + n, ?_, ?_⟩
  · unfold NumR num
    by_cases h1 : p + n ≤ 8 * t.size
    · rw [tkR_ok (by omega) (by omega), if_pos h1, Int.toNat_natCast]
      exact .inl ⟨rfl, rfl⟩
    · rw [tkR_end (by omega) (by omega), if_neg h1]
      exact .inr ⟨rfl, rfl⟩
  · intro h0
    by_cases h1 : p + n ≤ 8 * t.size
    · rw [tkR_ok (by omega) (by omega), Int.toNat_natCast] at h3
      refine ⟨h1, _, ?_, h3⟩
      dsimp only
      split
      · exact .inr rfl
      · exact hw
    · rw [tkR_end (by omega) (by omega)] at h0
      exact absurd h0 (by show ¬ (4 : Int) = 0; decide)
theorem c_new (h : IV w s lens) : C11 s w fun r e w1 => e = chk lens ∧ Ext (fun _ => False) w w1 ∧ (chk lens ≠ 0 → r = none) ∧ (chk lens = 0 → ∃ b, r = some (⟨b, 0, none⟩ : Addr) ∧ TB w1 w.heap.size w1.heap.size b lens) := by
  refine T11 _ _ _ ?_
  unfold S11
  refine (c_codes h).mono ?_
  rintro r2 e w1 ⟨rfl, he1, h1⟩
  refine Br.ne (fun q => ⟨rfl, he1, fun _ => rfl, fun hh => absurd hh q⟩) fun q => ?_
  obtain ⟨v2, o2⟩ := h1 q
  have hk := chk_lok q
  have hlen := hk.len
  refine (c_clone (h.keep he1) (by omega)).mono ?_
  rintro r5 w2 ⟨v5, he2, o5⟩
  refine (c_counted ((h.keep he1).keep he2) hk).mono ?_
  rintro r7 w3 ⟨rfl, he3⟩
  have z1 := he1.size
  have z2 := he2.size
  have z3 := he3.size
  refine (Hn.start w3).nw fun w4 H => ?_
  simp only [List.nil_append] at H
  have H : Hn w3 w4 [(w3.heap.size, tc r5 r2 (cn lens) (fun _ => 0) ⟨none, 0, 0⟩, 56)] := H
  refine Nn.of ?_
  simp only [add_lit, Nat.zero_add]
  refine ld16o (f := cn lens) H 2 0 rfl (fun j hj => tc_n _ _ _ _ _ hj) ?_
  refine (c_firsts (f := cn lens) (fun n => cn_bd hlen n) w4).mono ?_
  rintro r w5 ⟨rfl, he5⟩
  have H := H.keep he5
  refine Nn.of ?_
  simp only [add_lit, Nat.zero_add]
  refine st16o (pre := [Slc.v r5, Slc.v r2] ++ lst16 (cn lens)) (zs := lst16 fun _ => 0) (post := [Slc.v ⟨none, 0, 0⟩]) H 18 0 rfl rfl rfl fun w6 H => ?_
  simp only [List.set_cons_zero] at H
  have H : Hn w3 w6 [(w3.heap.size, tc r5 r2 (cn lens) (fs (cn lens)) ⟨none, 0, 0⟩, 56)] := H
  refine ⟨fun n st w7 => ∃ l : Nat, st = ((l + 1 : Nat) : Int) ∧ l ≤ 15 ∧ n = 15 - l ∧ ∃ s3 : Slc, Row w7 s3 3 1 (ints (ordI (ordT lens l))) ∧ (∀ j, s3.own j → w3.heap.size < j) ∧ Hn w3 w7 [(w3.heap.size, tc r5 r2 (cn lens) (fs (cn lens)) s3, 56)], 15, ⟨0, rfl, by omega, rfl, ⟨none, 0, 0⟩, Row.nil _ _ _, fun j hj => (by obtain ⟨a, ha, _⟩ := hj; cases ha), H⟩, ?_⟩
  rintro n st w7 ⟨l, rfl, hl, rfl, s3, hrow, own3, H⟩
  unfold S11L2
  refine Br.dec (fun q1 => ?_) fun q1 => ?_
  · refine ⟨fun n st w8 => ∃ i : Nat, st = (i : Int) ∧ i ≤ lens.length ∧ n = lens.length - i ∧ ∃ s3 : Slc, Row w8 s3 3 1 (ints (ordI (ordT lens l ++ idxT lens (l + 1) i))) ∧ (∀ j, s3.own j → w3.heap.size < j) ∧ Hn w3 w8 [(w3.heap.size, tc r5 r2 (cn lens) (fs (cn lens)) s3, 56)], lens.length, ⟨0, rfl, by omega, rfl, s3, by rw [show idxT lens (l + 1) 0 = [] by rfl, List.append_nil]; exact hrow, own3, H⟩, ?_⟩
    rintro n st w8 ⟨i, rfl, hi, rfl, s3, hrow, own3, H⟩
    unfold S11L1
    rw [h.1]
    refine Br.dec (fun q2 => ⟨by omega, by omega, ?_⟩) fun q2 => ?_
    · have hlt : i < lens.length := by omega
      obtain ⟨a, ha, hc⟩ := ((((h.keep he1).keep he2).keep he3).keep H.ext).get hlt
      rw [ha, Int.toNat_natCast]
      have hsc := idxT_succ lens (l + 1) i
      refine Nn.of (Ld.mk hc (Br.eq (fun q3 => Nn.of ?_) fun q3 => ?_))
      · rw [if_pos q3] at hsc
        simp only [add_lit, Nat.zero_add]
        refine H.ld 0 rfl rfl ?_
        have hlt8 := H.lt 0 rfl
        refine H.nw' fun w9 H9 he9 => ?_
        simp only [List.cons_append, List.nil_append] at H9
        have hb1 := ordT_len hlen l
        have hb2 : (idxT lens (l + 1) i).length ≤ i := cntT_le lens (l + 1) i
        have hrl := hrow.1
        rw [ints_len, ordI_len, List.length_append] at hrl
        obtain ⟨s4, w10, g1, g2, g3, g4, g5⟩ := elI.app1 (ty := 22) (ys := [.int .i64 (i : Int)]) (hrow.keep he9 fun _ _ h => h) (H9.get 1 rfl) rfl (by intro v hv; rw [List.mem_singleton.1 hv]; rfl) (by omega) (by omega)
        refine ⟨s4, w10, g1, Nn.of ?_⟩
        have own8 : ∀ j, s3.own j → j < w8.heap.size := fun j hj => hrow.own_lt hj
        have H10 := (H9.left (L := [_]) (M := [_])).other g4 fun j hj => ⟨by have := own3 j hj; omega, by have := own3 j hj; simp; omega⟩
        simp only [add_lit, Nat.zero_add]
        have own4 : ∀ j, s4.own j → w3.heap.size < j := fun j hj => by
          rcases g5 j hj with hh | hh
          · exact own3 j hh
          · have := he9.size; omega
        refine H10.st' 0 rfl (by show 34 < 35; omega) fun w11 H he11 => ?_
        simp only [List.set_cons_zero] at H
        refine ⟨lens.length - (i + 1), by omega, i + 1, by rw [i64_id (by omega)]; rfl, by omega, rfl, s4, ?_, own4, H⟩
        have e : ints (ordI (ordT lens l ++ idxT lens (l + 1) (i + 1))) = ints (ordI (ordT lens l ++ idxT lens (l + 1) i)) ++ [.int .i64 (i : Int)] := by
          rw [hsc, ← List.append_assoc, ordI_app, ints_app]
          rfl
        rw [e]
        exact g2.keep he11 fun j hj e => by have := own4 j hj; have e : j = w3.heap.size := e; omega
      · rw [if_neg q3] at hsc
        exact ⟨lens.length - (i + 1), by omega, i + 1, by rw [i64_id (by omega)]; rfl, by omega, rfl, s3, by rw [hsc]; exact hrow, own3, H⟩
    · have : i = lens.length := by omega
      subst this
      exact ⟨15 - (l + 1), by omega, l + 1, by rw [i64_id (by omega)]; rfl, by omega, rfl, s3, hrow, own3, H⟩
  · have : l = 15 := by omega
    subst this
    have z7 := H.lt 0 rfl
    have E := (he1.tr he2).tr he3
    refine ⟨q.symm, E.tr H.ext, fun hh => absurd q hh, fun _ => ⟨_, rfl, r5, r2, s3, H.get 0 rfl, (v5.keep he3).keep H.ext, ((v2.keep he2).keep he3).keep H.ext, IV.row hrow, row_cap hrow, ⟨by omega, z7⟩, fun j hj => ?_, fun j hj => ?_, fun j hj => ?_⟩⟩
    · have := o5 j hj; omega
    · have := o2 j hj; omega
    · have := own3 j hj; have := hrow.own_lt hj; omega
theorem getD_app {l m : List Int} {i : Nat} (h : i < l.length) : (l ++ m).getD i 0 = l.getD i 0 := by
  rw [List.getD_eq_getElem?_getD, List.getElem?_append_left h, List.getD_eq_getElem?_getD]
theorem ordI_get (l : List Nat) (i : Nat) : (ordI l).getD i 0 = ((l.getD i 0 : Nat) : Int) := by
  unfold ordI
  rw [List.getD_eq_getElem?_getD, List.getElem?_map, List.getD_eq_getElem?_getD]
  cases l[i]? <;> rfl
theorem sgo_zero {lens : List Int} {b : ByteArray} {n : Nat} {c f : Int} {p : Nat} : sgo lens b 0 n c f p = .error 13 := rfl
/-- What a table's Read answers. -/
def TR (lens : List Int) (b : ByteArray) (p : Nat) (v e : Int) (q : Nat) : Prop := (∃ g : Nat, sym lens b p = .ok (g, q) ∧ v = (g : Int) ∧ e = 0) ∨ (sym lens b p = .error e ∧ e ≠ 0)
theorem c_tread {lo hi tb rb p : Nat} {b : ByteArray} (ht : TB w lo hi tb lens) (hk : Lok lens) (hr : RB w rb b p) (hs : b.size ≤ 1000000) (hrb : rb < lo ∨ hi ≤ rb) :
    C21 (some (⟨tb, 0, none⟩ : Addr)) (at0 rb) w fun v e w1 => Ext (· = rb) w w1 ∧ ∃ q, TR lens b p v e q ∧ (e = 0 → RB w1 rb b q) := by
  refine T21 _ _ _ _ ?_
  unfold S21
  obtain ⟨s1, s2, s3, h1, h2, h3, h4, h5, h6, h7, h8, h9⟩ := ht
  have hlen := hk.len
  have h15 := long15 hk
  refine Br.f rfl (Br.f rfl (Nn.of ?_))
  simp only [add_lit, Nat.zero_add]
  refine Ld.of h1 (o := 34) (x := s3) rfl ?_
  have hne : tb ≠ rb := by omega
  refine ⟨fun k st w5 => ∃ (n : Nat) (c : Int) (q : Nat) (left : Slc), st = (left, c, (n : Int)) ∧ 1 ≤ n ∧ n ≤ 16 ∧ k = 16 - n ∧ IV w5 left (ordI (ordR lens (16 - n) n)) ∧ left.len ≤ left.cap ∧ (∀ j, left.own j → s3.own j) ∧ fs (cn lens) n ≤ 2 * c ∧ 0 ≤ fs (cn lens) n ∧ 0 ≤ c ∧ 2 * c + 2 ≤ 2 ^ n ∧ ∃ f : Int, fs (cn lens) n = 2 * f ∧ sgo lens b (longest lens + 1 - n) n c f q = sym lens b p ∧ RB w5 rb b q ∧ Ext (· = rb) w w5, 15, ⟨1, 0, p, s3, rfl, by omega, by omega, rfl, ?_, h5, fun j hj => hj, by show (0 : Int) ≤ 2 * 0; decide, by show (0 : Int) ≤ 0; decide, Int.le_refl _, by decide, 0, rfl, ?_, hr, Ext.refl _ _⟩, ?_⟩
  · have e := ordT_R lens 15 0
    rw [Nat.zero_add] at e
    have e : ordT lens 15 = ordR lens 15 1 := e
    rw [← e]
    exact h4
  · rw [Nat.add_sub_cancel]; rfl
  rintro k st w5 ⟨n, c, q, left, rfl, hn1, hn16, rfl, hv, hcap, hown, hfc, hf0, hc0, hc2, f, hff, hsg, hrd, he⟩
  unfold S21L1
  dsimp only
  have hlv := hv.1
  rw [ordI_len] at hlv
  have hp16 := two_pow_le (show n ≤ 16 by omega)
  have h16 : (2 : Int) ^ 16 = 65536 := by decide
  refine Br.dec (fun q1 => ?_) fun q1 => ?_
  · have hnl : n ≤ longest lens := by
      by_cases hh : n ≤ longest lens
      · exact hh
      · rw [ordR_nil hk _ n (by omega)] at hlv
        simp only [List.length_nil] at hlv
        omega
    obtain ⟨m, hm⟩ : ∃ m, longest lens + 1 - n = m + 1 := ⟨longest lens - n, by omega⟩
    rw [hm] at hsg
    unfold sgo at hsg
    have hb := bt_bd b 1 q
    refine (c_lowN (n := 1) hrd hs (by omega)).mono ?_
    rintro v e w6 ⟨he6, q2, hnum, hrb2⟩
    have he' : Ext (· = rb) w w6 := he.tr he6
    rcases hnum with ⟨hok, rfl⟩ | ⟨herr, rfl⟩
    · obtain ⟨rfl, rfl, hle⟩ := num_ok hok
      rw [if_neg (by omega)] at hsg
      have htk : tk b 1 q 1 = bt b 1 q := by
        show (if (1 : Int) = 1 then tk b 1 q 0 + bt b 1 (q + 0) * 2 ^ 0 else _) = _
        rw [if_pos rfl, Nat.add_zero]
        show (0 : Int) + bt b 1 q * 1 = _
        omega
      have hB := he'.blk h1 hne
      have hcn : cn lens n = (cnt lens n : Int) := by unfold cn; rw [if_neg (by omega)]
      have hcl : cnt lens n ≤ lens.length := cntT_le lens n lens.length
      refine Br.f rfl (Nn.of ⟨by omega, by omega, ?_⟩)
      simp only [add_lit, Int.toNat_natCast, Nat.mul_one, Nat.zero_add]
      refine Ld.of hB (o := 18 + n) (x := fs (cn lens) n) (by rw [List.getElem?_toArray]; exact tc_f _ _ _ _ _ (by omega)) (Nn.of ⟨by omega, by omega, ?_⟩)
      simp only [add_lit, Int.toNat_natCast, Nat.mul_one, Nat.zero_add]
      refine Ld.of hB (o := 2 + n) (x := cn lens n) (by rw [List.getElem?_toArray]; exact tc_n _ _ _ _ _ (by omega)) ?_
      rw [htk, show c * 2 ^ 1 = c * 2 by simp, i64_id (n := c * 2) (by omega), ior_high hc0 (by omega) hb, i64_id (n := 2 * c + bt b 1 q - fs (cn lens) n) (by omega), hcn, hff]
      have hrest : ordR lens (16 - n) n = idxs lens n ++ ordR lens (16 - (n + 1)) (n + 1) := by
        rw [show 16 - n = (16 - (n + 1)) + 1 by omega]
        rfl
      have hil : (idxs lens n).length = cnt lens n := rfl
      rw [hrest, List.length_append, hil] at hlv
      refine Lt.of (Br.dec (fun q3 => ⟨by omega, by omega, ?_⟩) fun q3 => Nn.of ⟨by omega, by omega, ?_⟩)
      · rw [if_pos q3] at hsg
        obtain ⟨z, hz⟩ : ∃ z : Nat, 2 * c + bt b 1 q - 2 * f = (z : Int) := ⟨(2 * c + bt b 1 q - 2 * f).toNat, by omega⟩
        rw [hz] at hsg q3 ⊢
        rw [Int.toNat_natCast] at hsg ⊢
        have hv6 := hv.keepF he6 fun j hj e => by have := h9 j (hown j hj); have e : j = rb := e; omega
        obtain ⟨a, ha, hc⟩ := hv6.get (i := z) (by rw [ordI_len, hrest, List.length_append, hil]; omega)
        rw [ha]
        rw [Nat.mul_one] at hc
        refine Nn.of (Ld.mk hc ⟨he', q + 1, .inl ⟨_, hsg.symm, ?_, rfl⟩, fun _ => hrb2 rfl⟩)
        rw [hrest, ordI_app, getD_app (by rw [ordI_len, hil]; omega), ordI_get]
      · rw [if_neg q3] at hsg
        simp only [add_lit, Int.toNat_natCast, Nat.mul_one, Nat.zero_add]
        refine Ld.of hB (o := 2 + n) (x := cn lens n) (by rw [List.getElem?_toArray]; exact tc_n _ _ _ _ _ (by omega)) ?_
        rw [hcn, Int.toNat_natCast]
        have hn15 : n ≤ 15 := by omega
        have hv6 := hv.keepF he6 fun j hj e => by have := h9 j (hown j hj); have e : j = rb := e; omega
        obtain ⟨d1, d2⟩ := hv6.drop hcap (d := cnt lens n) (by rw [ordI_len, hrest, List.length_append, hil]; omega)
        have hfn : fs (cn lens) (n + 1) = 2 * (fs (cn lens) n + cn lens n) := by
          obtain ⟨x, rfl⟩ : ∃ x, n = x + 1 := ⟨n - 1, by omega⟩
          rfl
        rw [i64_id (n := (n : Int) + 1) (by omega)]
        refine ⟨by omega, by omega, 16 - (n + 1), by omega, n + 1, _, q + 1, _, rfl, by omega, by omega, rfl, ?_, d2, fun j hj => hown j (cut_own hj), ?_, ?_, by omega, ?_, 2 * f + (cnt lens n : Int), ?_, ?_, hrb2 rfl, he'⟩
        · rw [hrest, ordI_app, ← hil, ← ordI_len, List.drop_left] at d1
          rw [ordI_len, hil] at d1
          exact d1
        · rw [hfn, hcn, hff]; omega
        · rw [hfn, hcn, hff]; omega
        · rw [two_pow_succ]; omega
        · rw [hfn, hcn, hff]
        · rw [show longest lens + 1 - (n + 1) = m by omega]; exact hsg
    · have herr' : 8 * b.size ≤ q := by
        unfold num at herr
        split at herr
        · cases herr
        · omega
      rw [if_pos herr'] at hsg
      exact Br.t rfl ⟨he', q, .inr ⟨hsg.symm, by decide⟩, fun h => absurd h (by decide)⟩
  · have hnl : longest lens + 1 - n = 0 := by
      by_cases hh : n ≤ longest lens
      · have := ordR_ne hk (16 - n) n hn1 hh (by omega)
        omega
      · omega
    rw [hnl, sgo_zero] at hsg
    exact ⟨he, q, .inr ⟨hsg.symm, by decide⟩, fun h => absurd h (by decide)⟩
end
end Inf
end Go.Proofs.Ytapgacggllbhiaa
