/- Inflate: the program's tables: New, Read. Conditions: sizes. -/
import Derived.Test.YtjkoafjnmkchdaaGreatDoorQIZe3
import Derived.Test.YtjkoafjnmkchdaaGreatDoorQIZe2
import Derived.Laws.CopyRow
import Derived.Laws.IdiomCopy
import Derived.Laws.IdiomMaps
namespace Go.Proofs.YtjkoafjnmkchdaaGreatDoor
namespace Inf
open Sh Bit
set_option linter.unusedVariables false
set_option linter.unusedSimpArgs false
set_option maxRecDepth 4000
set_option maxHeartbeats 2000000
theorem ordI_app (l m : List Nat) : ordI (l ++ m) = ordI l ++ ordI m := by unfold ordI; rw [List.map_append]
theorem ordI_len (l : List Nat) : (ordI l).length = l.length := by unfold ordI; simp
/-- The signs of k lengths from n on. -/
def ordR (lens : List Int) : Nat → Nat → List Nat
  | 0, _ => []
  | k + 1, n => idxs lens n ++ ordR lens k (n + 1)
theorem ordT_R (lens : List Int) : ∀ k l, ordT lens (l + k) = ordT lens l ++ ordR lens k (l + 1)
  | 0, l => by simp [ordR]
  | k + 1, l => by
    rw [show l + (k + 1) = (l + 1) + k by omega, ordT_R lens k (l + 1)]
    show (ordT lens l ++ idxs lens (l + 1)) ++ _ = ordT lens l ++ (idxs lens (l + 1) ++ ordR lens k (l + 1 + 1))
    rw [List.append_assoc]
theorem ordR_nil {lens : List Int} (hk : Lok lens) : ∀ k n, longest lens < n → ordR lens k n = []
  | 0, _, _ => rfl
  | k + 1, n, h => by
    have h1 : idxs lens n = [] := List.eq_nil_of_length_eq_zero (cnt_long hk h)
    show idxs lens n ++ ordR lens k (n + 1) = []
    rw [h1, ordR_nil hk k (n + 1) (by omega)]
    rfl
theorem long_cnt {lens : List Int} (hk : Lok lens) (h : 1 ≤ longest lens) : 0 < cnt lens (longest lens) := by
  rcases long_mem (lens := lens) lens.length with h0 | ⟨j, h1, h2⟩
  · unfold longest at h; rw [h0] at h; exact absurd h (by decide)
  · have hn := (used_kr hk lens.length).2.2.2.2.1
    have h3 : lens.getD j 0 = (longest lens : Int) := by rw [h2]; unfold longest; omega
    have := (idxs_at h3 h1).2
    omega
theorem ordR_ne {lens : List Int} (hk : Lok lens) : ∀ k n, 1 ≤ n → n ≤ longest lens → longest lens < n + k → 0 < (ordR lens k n).length
  | 0, n, _, h, h2 => by omega
  | k + 1, n, h0, h, h2 => by
    show 0 < (idxs lens n ++ ordR lens k (n + 1)).length
    rw [List.length_append]
    by_cases he : n = longest lens
    · have : (idxs lens n).length = cnt lens n := rfl
      have h3 := long_cnt hk (by omega)
      rw [← he] at h3
      omega
    · have := ordR_ne hk k (n + 1) (by omega) (by omega) (by omega)
      omega
theorem long15 {lens : List Int} (hk : Lok lens) : longest lens ≤ 15 := by
  have := (used_kr hk lens.length).2.2.2.2.2
  unfold longest
  omega
/-- The program's reader, that reads least significant bits first. -/
def RB (w : World) (b : Nat) (s : ByteArray) (p : Nat) : Prop := p ≤ 8 * s.size ∧ ∃ way : Int, (way = 0 ∨ way = 1) ∧ RdB w b s p way
theorem RB.keep {F : Nat → Prop} {w w' : World} {b : Nat} {s : ByteArray} {p : Nat} (h : RB w b s p) (he : Ext F w w') (hF : ¬ F b) : RB w' b s p := by
  obtain ⟨h1, way, h2, h3⟩ := h
  exact ⟨h1, way, h2, he.blk h3 hF⟩
theorem RB.lt {w : World} {b : Nat} {s : ByteArray} {p : Nat} (h : RB w b s p) : b < w.heap.size := by
  obtain ⟨h1, way, h2, h3⟩ := h
  exact Blk.lt h3
/-- What Low answers. -/
def NumR (s : ByteArray) (p n : Nat) (v e : Int) (q : Nat) : Prop := (num s p n = .ok (v, q) ∧ e = 0) ∨ (num s p n = .error 4 ∧ e = 4)
attribute [local irreducible] Ld St Nw Nn Lt LdS
section
variable {w : World} {s : Slc} {lens : List Int}
theorem c_lowN {b : Nat} {t : ByteArray} {p n : Nat} (h : RB w b t p) (hs : t.size ≤ 1000000) (hn : n ≤ 24) : C72 (at0 b) (n : Int) w fun v e w1 => Ext (· = b) w w1 ∧ ∃ q, NumR t p n v e q ∧ (e = 0 → RB w1 b t q) := by
  obtain ⟨hp, way, hw, hr⟩ := h
  refine (c_low hr hp hs (n : Int)).mono ?_
  rintro v e w1 ⟨rfl, rfl, h3, he⟩
  refine ⟨he, p + n, ?_, ?_⟩
  · unfold NumR num
    by_cases h1 : p + n ≤ 8 * t.size
    · rw [tkR_ok (by omega) (by omega), if_pos h1, Int.toNat_natCast]
      exact .inl ⟨rfl, rfl⟩
    · rw [tkR_end (by omega) (by omega), if_neg h1]
      exact .inr ⟨rfl, rfl⟩
  · intro h0
    by_cases h1 : p + n ≤ 8 * t.size
    · rw [tkR_ok (by omega) (by omega), Int.toNat_natCast] at h3
      refine ⟨h1, _, ?_, h3⟩
      dsimp only
      split
      · exact .inr rfl
      · exact hw
    · rw [tkR_end (by omega) (by omega)] at h0
      exact absurd h0 (by show ¬ (4 : Int) = 0; decide)
theorem c_new (h : IV w s lens) : C60 s w fun r e w1 => e = chk lens ∧ Ext (fun _ => False) w w1 ∧ (chk lens ≠ 0 → r = none) ∧ (chk lens = 0 → ∃ b, r = some (⟨b, 0, none⟩ : Addr) ∧ TB w1 w.heap.size w1.heap.size b lens) := by
  refine T60 _ _ _ ?_
  unfold S60
  refine (c_codes h).mono ?_
  rintro r2 e w1 ⟨rfl, he1, h1⟩
  refine Br.ne (fun q => ⟨rfl, he1, fun _ => rfl, fun hh => absurd hh q⟩) fun q => ?_
  obtain ⟨v2, o2⟩ := h1 q
  have hk := chk_lok q
  have hlen := hk.len
  refine (c_clone (h.keep he1) (by omega)).mono ?_
  rintro r5 w2 ⟨v5, he2, o5⟩
  refine (c_counted ((h.keep he1).keep he2) hk).mono ?_
  rintro r7 w3 ⟨rfl, he3⟩
  have z1 := he1.size
  have z2 := he2.size
  have z3 := he3.size
  refine (Hn.start w3).nw fun w4 H => ?_
  simp only [List.nil_append] at H
  have H : Hn w3 w4 [(w3.heap.size, tc r5 r2 (cn lens) (fun _ => 0) ⟨none, 0, 0⟩, 139)] := H
  refine Nn.of ?_
  simp only [add_lit, Nat.zero_add]
  refine ld16o (f := cn lens) H 2 0 rfl (fun j hj => tc_n _ _ _ _ _ hj) ?_
  refine (c_firsts (f := cn lens) (fun n => cn_bd hlen n) w4).mono ?_
  rintro r w5 ⟨rfl, he5⟩
  have H := H.keep he5
  refine Nn.of ?_
  simp only [add_lit, Nat.zero_add]
  refine st16o (pre := [Slc.v r5, Slc.v r2] ++ lst16 (cn lens)) (zs := lst16 fun _ => 0) (post := [Slc.v ⟨none, 0, 0⟩]) H 18 0 rfl rfl rfl fun w6 H => ?_
  simp only [List.set_cons_zero] at H
  have H : Hn w3 w6 [(w3.heap.size, tc r5 r2 (cn lens) (fs (cn lens)) ⟨none, 0, 0⟩, 139)] := H
  refine ⟨fun n st w7 => ∃ l : Nat, st = ((l + 1 : Nat) : Int) ∧ l ≤ 15 ∧ n = 15 - l ∧ ∃ s3 : Slc, Row w7 s3 3 1 (ints (ordI (ordT lens l))) ∧ (∀ j, s3.own j → w3.heap.size < j) ∧ Hn w3 w7 [(w3.heap.size, tc r5 r2 (cn lens) (fs (cn lens)) s3, 139)], 15, ⟨0, rfl, by omega, rfl, ⟨none, 0, 0⟩, Row.nil _ _ _, fun j hj => (by obtain ⟨a, ha, _⟩ := hj; cases ha), H⟩, ?_⟩
  rintro n st w7 ⟨l, rfl, hl, rfl, s3, hrow, own3, H⟩
  unfold S60L2
  refine Br.dec (fun q1 => ?_) fun q1 => ?_
  · refine ⟨fun n st w8 => ∃ i : Nat, st = (i : Int) ∧ i ≤ lens.length ∧ n = lens.length - i ∧ ∃ s3 : Slc, Row w8 s3 3 1 (ints (ordI (ordT lens l ++ idxT lens (l + 1) i))) ∧ (∀ j, s3.own j → w3.heap.size < j) ∧ Hn w3 w8 [(w3.heap.size, tc r5 r2 (cn lens) (fs (cn lens)) s3, 139)], lens.length, ⟨0, rfl, by omega, rfl, s3, by rw [show idxT lens (l + 1) 0 = [] by rfl, List.append_nil]; exact hrow, own3, H⟩, ?_⟩
    rintro n st w8 ⟨i, rfl, hi, rfl, s3, hrow, own3, H⟩
    unfold S60L1
    rw [h.1]
    refine Br.dec (fun q2 => ⟨by omega, by omega, ?_⟩) fun q2 => ?_
    · have hlt : i < lens.length := by omega
      obtain ⟨a, ha, hc⟩ := ((((h.keep he1).keep he2).keep he3).keep H.ext).get hlt
      rw [ha, Int.toNat_natCast]
      have hsc := idxT_succ lens (l + 1) i
      refine Nn.of (Ld.mk hc (Br.eq (fun q3 => Nn.of ?_) fun q3 => ?_))
      · rw [if_pos q3] at hsc
        simp only [add_lit, Nat.zero_add]
        refine H.ld 0 rfl rfl ?_
        have hlt8 := H.lt 0 rfl
        refine H.nw' fun w9 H9 he9 => ?_
        simp only [List.cons_append, List.nil_append] at H9
        have hb1 := ordT_len hlen l
        have hb2 : (idxT lens (l + 1) i).length ≤ i := cntT_le lens (l + 1) i
        have hrl := hrow.1
        rw [ints_len, ordI_len, List.length_append] at hrl
        obtain ⟨s4, w10, g1, g2, g3, g4, g5⟩ := elI.app1 (ty := 76) (ys := [.int .i64 (i : Int)]) (hrow.keep he9 fun _ _ h => h) (H9.get 1 rfl) rfl (by intro v hv; rw [List.mem_singleton.1 hv]; rfl) (by omega) (by omega)
        refine ⟨s4, w10, g1, Nn.of ?_⟩
        have own8 : ∀ j, s3.own j → j < w8.heap.size := fun j hj => hrow.own_lt hj
        have H10 := (H9.left (L := [_]) (M := [_])).other g4 fun j hj => ⟨by have := own3 j hj; omega, by have := own3 j hj; simp; omega⟩
        simp only [add_lit, Nat.zero_add]
        have own4 : ∀ j, s4.own j → w3.heap.size < j := fun j hj => by
          rcases g5 j hj with hh | hh
          · exact own3 j hh
          · have := he9.size; omega
        refine H10.st' 0 rfl (by show 34 < 35; omega) fun w11 H he11 => ?_
        simp only [List.set_cons_zero] at H
        refine ⟨lens.length - (i + 1), by omega, i + 1, by rw [i64_id (by omega)]; rfl, by omega, rfl, s4, ?_, own4, H⟩
        have e : ints (ordI (ordT lens l ++ idxT lens (l + 1) (i + 1))) = ints (ordI (ordT lens l ++ idxT lens (l + 1) i)) ++ [.int .i64 (i : Int)] := by
          rw [hsc, ← List.append_assoc, ordI_app, ints_app]
          rfl
        rw [e]
        exact g2.keep he11 fun j hj e => by have := own4 j hj; have e : j = w3.heap.size := e; omega
      · rw [if_neg q3] at hsc
        exact ⟨lens.length - (i + 1), by omega, i + 1, by rw [i64_id (by omega)]; rfl, by omega, rfl, s3, by rw [hsc]; exact hrow, own3, H⟩
    · have : i = lens.length := by omega
      subst this
      exact ⟨15 - (l + 1), by omega, l + 1, by rw [i64_id (by omega)]; rfl, by omega, rfl, s3, hrow, own3, H⟩
  · have : l = 15 := by omega
    subst this
    have z7 := H.lt 0 rfl
    have E := (he1.tr he2).tr he3
    refine ⟨q.symm, E.tr H.ext, fun hh => absurd q hh, fun _ => ⟨_, rfl, r5, r2, s3, H.get 0 rfl, (v5.keep he3).keep H.ext, ((v2.keep he2).keep he3).keep H.ext, IV.row hrow, row_cap hrow, ⟨by omega, z7⟩, fun j hj => ?_, fun j hj => ?_, fun j hj => ?_⟩⟩
    · have := o5 j hj; omega
    · have := o2 j hj; omega
    · have := own3 j hj; have := hrow.own_lt hj; omega
theorem getD_app {l m : List Int} {i : Nat} (h : i < l.length) : (l ++ m).getD i 0 = l.getD i 0 := by
  rw [List.getD_eq_getElem?_getD, List.getElem?_append_left h, List.getD_eq_getElem?_getD]
theorem ordI_get (l : List Nat) (i : Nat) : (ordI l).getD i 0 = ((l.getD i 0 : Nat) : Int) := by
  unfold ordI
  rw [List.getD_eq_getElem?_getD, List.getElem?_map, List.getD_eq_getElem?_getD]
  cases l[i]? <;> rfl
theorem sgo_zero {lens : List Int} {b : ByteArray} {n : Nat} {c f : Int} {p : Nat} : sgo lens b 0 n c f p = .error 13 := rfl
/-- What a table's Read answers. -/
def TR (lens : List Int) (b : ByteArray) (p : Nat) (v e : Int) (q : Nat) : Prop := (∃ g : Nat, sym lens b p = .ok (g, q) ∧ v = (g : Int) ∧ e = 0) ∨ (sym lens b p = .error e ∧ e ≠ 0)
theorem c_tread {lo hi tb rb p : Nat} {b : ByteArray} (ht : TB w lo hi tb lens) (hk : Lok lens) (hr : RB w rb b p) (hs : b.size ≤ 1000000) (hrb : rb < lo ∨ hi ≤ rb) :
    C101 (some (⟨tb, 0, none⟩ : Addr)) (at0 rb) w fun v e w1 => Ext (· = rb) w w1 ∧ ∃ q, TR lens b p v e q ∧ (e = 0 → RB w1 rb b q) := by
  refine T101 _ _ _ _ ?_
  unfold S101
  obtain ⟨s1, s2, s3, h1, h2, h3, h4, h5, h6, h7, h8, h9⟩ := ht
  have hlen := hk.len
  have h15 := long15 hk
  refine Br.f rfl (Br.f rfl (Nn.of ?_))
  simp only [add_lit, Nat.zero_add]
  refine Ld.of h1 (o := 34) (x := s3) rfl ?_
  have hne : tb ≠ rb := by omega
  refine ⟨fun k st w5 => ∃ (n : Nat) (c : Int) (q : Nat) (left : Slc), st = (left, c, (n : Int)) ∧ 1 ≤ n ∧ n ≤ 16 ∧ k = 16 - n ∧ IV w5 left (ordI (ordR lens (16 - n) n)) ∧ left.len ≤ left.cap ∧ (∀ j, left.own j → s3.own j) ∧ fs (cn lens) n ≤ 2 * c ∧ 0 ≤ fs (cn lens) n ∧ 0 ≤ c ∧ 2 * c + 2 ≤ 2 ^ n ∧ ∃ f : Int, fs (cn lens) n = 2 * f ∧ sgo lens b (longest lens + 1 - n) n c f q = sym lens b p ∧ RB w5 rb b q ∧ Ext (· = rb) w w5, 15, ⟨1, 0, p, s3, rfl, by omega, by omega, rfl, ?_, h5, fun j hj => hj, by show (0 : Int) ≤ 2 * 0; decide, by show (0 : Int) ≤ 0; decide, Int.le_refl _, by decide, 0, rfl, ?_, hr, Ext.refl _ _⟩, ?_⟩
  · have e := ordT_R lens 15 0
    rw [Nat.zero_add] at e
    have e : ordT lens 15 = ordR lens 15 1 := e
    rw [← e]
    exact h4
  · rw [Nat.add_sub_cancel]; rfl
  rintro k st w5 ⟨n, c, q, left, rfl, hn1, hn16, rfl, hv, hcap, hown, hfc, hf0, hc0, hc2, f, hff, hsg, hrd, he⟩
  unfold S101L1
  dsimp only
  have hlv := hv.1
  rw [ordI_len] at hlv
  have hp16 := two_pow_le (show n ≤ 16 by omega)
  have h16 : (2 : Int) ^ 16 = 65536 := by decide
  refine Br.dec (fun q1 => ?_) fun q1 => ?_
  · have hnl : n ≤ longest lens := by
      by_cases hh : n ≤ longest lens
      · exact hh
      · rw [ordR_nil hk _ n (by omega)] at hlv
        simp only [List.length_nil] at hlv
        omega
    obtain ⟨m, hm⟩ : ∃ m, longest lens + 1 - n = m + 1 := ⟨longest lens - n, by omega⟩
    rw [hm] at hsg
    unfold sgo at hsg
    have hb := bt_bd b 1 q
    refine (c_lowN (n := 1) hrd hs (by omega)).mono ?_
    rintro v e w6 ⟨he6, q2, hnum, hrb2⟩
    have he' : Ext (· = rb) w w6 := he.tr he6
    rcases hnum with ⟨hok, rfl⟩ | ⟨herr, rfl⟩
    · obtain ⟨rfl, rfl, hle⟩ := num_ok hok
      rw [if_neg (by omega)] at hsg
      have htk : tk b 1 q 1 = bt b 1 q := by
        show (if (1 : Int) = 1 then tk b 1 q 0 + bt b 1 (q + 0) * 2 ^ 0 else _) = _
        rw [if_pos rfl, Nat.add_zero]
        show (0 : Int) + bt b 1 q * 1 = _
        omega
      have hB := he'.blk h1 hne
      have hcn : cn lens n = (cnt lens n : Int) := by unfold cn; rw [if_neg (by omega)]
      have hcl : cnt lens n ≤ lens.length := cntT_le lens n lens.length
      refine Br.f rfl (Nn.of ⟨by omega, by omega, ?_⟩)
      simp only [add_lit, Int.toNat_natCast, Nat.mul_one, Nat.zero_add]
      refine Ld.of hB (o := 18 + n) (x := fs (cn lens) n) (by rw [List.getElem?_toArray]; exact tc_f _ _ _ _ _ (by omega)) (Nn.of ⟨by omega, by omega, ?_⟩)
      simp only [add_lit, Int.toNat_natCast, Nat.mul_one, Nat.zero_add]
      refine Ld.of hB (o := 2 + n) (x := cn lens n) (by rw [List.getElem?_toArray]; exact tc_n _ _ _ _ _ (by omega)) ?_
      rw [htk, show c * 2 ^ 1 = c * 2 by simp, i64_id (n := c * 2) (by omega), ior_high hc0 (by omega) hb, i64_id (n := 2 * c + bt b 1 q - fs (cn lens) n) (by omega), hcn, hff]
      have hrest : ordR lens (16 - n) n = idxs lens n ++ ordR lens (16 - (n + 1)) (n + 1) := by
        rw [show 16 - n = (16 - (n + 1)) + 1 by omega]
        rfl
      have hil : (idxs lens n).length = cnt lens n := rfl
      rw [hrest, List.length_append, hil] at hlv
      refine Lt.of (Br.dec (fun q3 => ⟨by omega, by omega, ?_⟩) fun q3 => Nn.of ⟨by omega, by omega, ?_⟩)
      · rw [if_pos q3] at hsg
        obtain ⟨z, hz⟩ : ∃ z : Nat, 2 * c + bt b 1 q - 2 * f = (z : Int) := ⟨(2 * c + bt b 1 q - 2 * f).toNat, by omega⟩
        rw [hz] at hsg q3 ⊢
        rw [Int.toNat_natCast] at hsg ⊢
        have hv6 := hv.keepF he6 fun j hj e => by have := h9 j (hown j hj); have e : j = rb := e; omega
        obtain ⟨a, ha, hc⟩ := hv6.get (i := z) (by rw [ordI_len, hrest, List.length_append, hil]; omega)
        rw [ha]
        rw [Nat.mul_one] at hc
        refine Nn.of (Ld.mk hc ⟨he', q + 1, .inl ⟨_, hsg.symm, ?_, rfl⟩, fun _ => hrb2 rfl⟩)
        rw [hrest, ordI_app, getD_app (by rw [ordI_len, hil]; omega), ordI_get]
      · rw [if_neg q3] at hsg
        simp only [add_lit, Int.toNat_natCast, Nat.mul_one, Nat.zero_add]
        refine Ld.of hB (o := 2 + n) (x := cn lens n) (by rw [List.getElem?_toArray]; exact tc_n _ _ _ _ _ (by omega)) ?_
        rw [hcn, Int.toNat_natCast]
        have hn15 : n ≤ 15 := by omega
        have hv6 := hv.keepF he6 fun j hj e => by have := h9 j (hown j hj); have e : j = rb := e; omega
        obtain ⟨d1, d2⟩ := hv6.drop hcap (d := cnt lens n) (by rw [ordI_len, hrest, List.length_append, hil]; omega)
        have hfn : fs (cn lens) (n + 1) = 2 * (fs (cn lens) n + cn lens n) := by
          obtain ⟨x, rfl⟩ : ∃ x, n = x + 1 := ⟨n - 1, by omega⟩
          rfl
        rw [i64_id (n := (n : Int) + 1) (by omega)]
        refine ⟨by omega, by omega, 16 - (n + 1), by omega, n + 1, _, q + 1, _, rfl, by omega, by omega, rfl, ?_, d2, fun j hj => hown j (cut_own hj), ?_, ?_, by omega, ?_, 2 * f + (cnt lens n : Int), ?_, ?_, hrb2 rfl, he'⟩
        · rw [hrest, ordI_app, ← hil, ← ordI_len, List.drop_left] at d1
          rw [ordI_len, hil] at d1
          exact d1
        · rw [hfn, hcn, hff]; omega
        · rw [hfn, hcn, hff]; omega
        · rw [two_pow_succ]; omega
        · rw [hfn, hcn, hff]
        · rw [show longest lens + 1 - (n + 1) = m by omega]; exact hsg
    · have herr' : 8 * b.size ≤ q := by
        unfold num at herr
        split at herr
        · cases herr
        · omega
      rw [if_pos herr'] at hsg
      exact Br.t rfl ⟨he', q, .inr ⟨hsg.symm, by decide⟩, fun h => absurd h (by decide)⟩
  · have hnl : longest lens + 1 - n = 0 := by
      by_cases hh : n ≤ longest lens
      · have := ordR_ne hk (16 - n) n hn1 hh (by omega)
        omega
      · omega
    rw [hnl, sgo_zero] at hsg
    exact ⟨he, q, .inr ⟨hsg.symm, by decide⟩, fun h => absurd h (by decide)⟩
end
end Inf
end Go.Proofs.YtjkoafjnmkchdaaGreatDoor

/- Slices of bytes that own their row: append, the string of them. Condition: sizes below 2^40. -/
namespace Go.Proofs.YtjkoafjnmkchdaaGreatDoor
namespace Sh
set_option linter.unusedVariables false
set_option linter.unusedSimpArgs false

/-- The cells of these bytes. -/
def bcs (l : List UInt8) : List Value := l.map fun b => .int .u8 (b.toNat : Int)
theorem bcs_len (l : List UInt8) : (bcs l).length = l.length := by simp [bcs]
theorem bcs_append (l m : List UInt8) : bcs (l ++ m) = bcs l ++ bcs m := by simp [bcs]
theorem bcs_one (l : List UInt8) : ∀ v ∈ bcs l, v.oneCell' = true := by
  intro v hv
  obtain ⟨b, _, rfl⟩ := List.mem_map.1 hv
  rfl
theorem bcs_get {l : List UInt8} {i : Nat} {b : UInt8} (h : l[i]? = some b) : (bcs l)[i]? = some (.int .u8 (b.toNat : Int)) := by simp [bcs, h]
/-- A slice of bytes that owns its row. -/
def BRow (w : World) (s : Slc) (l : List UInt8) : Prop := Row w s 5 1 (bcs l)
theorem BRow.len {w : World} {s : Slc} {l : List UInt8} (h : BRow w s l) : s.len = l.length := by
  have := h.1
  rw [bcs_len] at this
  omega
theorem BRow.nil (w : World) : BRow w ⟨none, 0, 0⟩ [] := Row.nil w _ _
theorem BRow.keep {F : Nat → Prop} {w w' : World} {s : Slc} {l : List UInt8} (h : BRow w s l) (he : Ext F w w') (hn : ∀ j, s.own j → ¬ F j) : BRow w' s l := Row.keep h he hn
theorem BRow.own_lt {w : World} {s : Slc} {l : List UInt8} (h : BRow w s l) {j : Nat} (hj : s.own j) : j < w.heap.size := Row.own_lt h hj
theorem BRow.get {w : World} {s : Slc} {l : List UInt8} (h : BRow w s l) {i : Nat} {b : UInt8} (hi : l[i]? = some b) : ∃ g, s.p = some ⟨g, 0, none⟩ ∧ w.cell? ⟨g, i, none⟩ = some (.int .u8 (b.toNat : Int)) := Row.cell h (bcs_get hi)

theorem und_bytes : Tryz.prog.underlying 29 = some (.slice 5) := by kernel_rfl
theorem und_byte : Tryz.prog.underlying 5 = some (.int .u8) := by kernel_rfl
theorem und_string : Tryz.prog.underlying 9 = some .string := by kernel_rfl
theorem info_byte' : (match Tryz.prog.info? 5 with
  | some i => Nat.beq i.size 1 && Nat.beq i.bytes 1 && (match i.zero with
    | some z => Nat.beq z.cells.size 1
    | none => false)
  | none => false) = true := by kernel_rfl
theorem info_byte : ∃ i z, Tryz.prog.info? 5 = some i ∧ i.size = 1 ∧ i.bytes = 1 ∧ i.zero = some z ∧ z.cells.size = 1 := by
  have h := info_byte'
  split at h
  · rename_i i hi
    simp only [Bool.and_eq_true] at h
    obtain ⟨⟨h1, h2⟩, h3⟩ := h
    split at h3
    · rename_i z hz
      exact ⟨i, z, hi, Nat.eq_of_beq_eq_true h1, Nat.eq_of_beq_eq_true h2, hz, Nat.eq_of_beq_eq_true h3⟩
    · cases h3
  · cases h

section
variable {w : World} {s : Slc} {ty : TypeId} {l news : List UInt8} {x : Value}
/-- What append answers. -/
def Appended (w : World) (s : Slc) (l : List UInt8) (r : Sem Value) : Prop :=
  ∃ s' w', RunV Tryz.prog r w (Slc.v s') w' ∧ BRow w' s' l ∧ Ext s.own w w' ∧ ∀ j, s'.own j → s.own j ∨ w.heap.size ≤ j
theorem app_any {u : TypeId} (hu : (∃ e', Tryz.prog.underlying u = some (.slice e')) ∨ Tryz.prog.underlying u = some .string)
    (hlen : Builtin.lenOf x = pure news.length) (hcells : ∀ w' : World, w'.heap = w.heap → (Builtin.firstCells 1 news.length x).run Tryz.prog w' = .ok (bcs news).toArray w')
    (own : BRow w s l) (hb : l.length + news.length ≤ 1099511627776) : Appended w s (l ++ news) (Builtin.append_ #[29, u] ty #[Slc.v s, x]) := by
  obtain ⟨i, z, hi, h1, h2, hz, hzs⟩ := info_byte
  have hsl := own.len
  obtain ⟨s', w', hr, ho, _, he, hf⟩ := append_any (P := Tryz.prog) (w := w) (s := s) (t := 29) (u := u) (ty := ty) (e := 5) (i := i) (z := z) (xs := bcs l) (news := bcs news) (x := x) (m := news.length)
    und_bytes hu hi hz (by rw [hzs, h1]) hlen (by rw [h1]; exact hcells) (by rw [bcs_len, h1, Nat.mul_one]) (bcs_one news) (by rw [h1]; exact own) (by rw [h2, hsl]; omega) (by rw [hsl]; omega)
  exact ⟨s', w', hr, by unfold BRow; rw [bcs_append, ← h1]; exact ho, he, hf⟩
theorem app_str (own : BRow w s l) (t : ByteArray) (hb : l.length + t.size ≤ 1099511627776) : Appended w s (l ++ t.data.toList) (Builtin.append_ #[29, 9] ty #[Slc.v s, .string t]) := by
  have hl : t.data.toList.length = t.size := Array.length_toList
  have hx : t.extract 0 t.size = t := by simp
  refine app_any (.inr und_string) (by rw [hl]; rfl) (fun w' _ => ?_) own (by rw [hl]; exact hb)
  show Result.ok _ _ = _
  congr 1
  apply Array.ext'
  rw [hl, hx]
  simp [bcs]
theorem app_row {s2 : Slc} {m : List UInt8} (own : BRow w s l) (h2 : BRow w s2 m) (hb : l.length + m.length ≤ 1099511627776) : Appended w s (l ++ m) (Builtin.append_ #[29, 29] ty #[Slc.v s, Slc.v s2]) := by
  refine app_any (.inl ⟨_, und_bytes⟩) (by rw [← h2.len]; rfl) (fun w' hw' => ?_) own hb
  rcases h2.2 with rfl | ⟨g, cur, hp, hg, hle, hsz, htk⟩
  · have : m = [] := List.eq_nil_of_length_eq_zero (by have := h2.len; simpa using this.symm)
    subst this
    exact run_firstCells_none (P := Tryz.prog) (w := w') 1 0 0 0
  · obtain ⟨p, len, cap⟩ := s2
    simp only at hp
    subst hp
    refine run_firstCells_some w' 1 m.length ⟨g, 0, none⟩ len cap (bcs m) (by rw [bcs_len, Nat.mul_one]) fun j v hj => ?_
    obtain ⟨g', hg', h⟩ := Row.cell h2 hj
    cases hg'
    simpa [World.cell?, hw'] using h
theorem app_one {g : Nat} {b : UInt8} (own : BRow w s l) (hg : Blk w g #[.int .u8 (b.toNat : Int)] 5) (hb : l.length + 1 ≤ 1099511627776) :
    Appended w s (l ++ [b]) (Builtin.append_ #[29, 29] ty #[Slc.v s, Slc.v ⟨some ⟨g, 0, none⟩, 1, 1⟩]) :=
  app_row own (s2 := ⟨some ⟨g, 0, none⟩, 1, 1⟩) (m := [b]) ⟨rfl, .inr ⟨g, _, rfl, hg, Nat.le_refl _, rfl, rfl⟩⟩ hb

theorem strOfNums_bytes (l : List UInt8) : strOfNums (l.map fun b => (b.toNat : Int)) = ⟨l.toArray⟩ := by
  unfold strOfNums
  congr 1
  simp [Function.comp_def]
/-- string(b). -/
theorem str_row (h : BRow w s l) : RunV Tryz.prog (convert 29 9 (Slc.v s)) w (.string ⟨l.toArray⟩) w := by
  rcases h.2 with rfl | ⟨g, cur, hp, hg, hle, hsz, htk⟩
  · have : l = [] := List.eq_nil_of_length_eq_zero (by have := h.len; simpa using this.symm)
    subst this
    exact run_convert_bytes_nil w _ _ und_bytes und_byte 0 0 _ und_string
  · obtain ⟨p, len, cap⟩ := s
    simp only at hp
    subst hp
    have := run_convert_bytes_arg (P := Tryz.prog) w 29 5 und_bytes und_byte g 0 len cap (l.map fun b => (b.toNat : Int)) (by rw [List.length_map]; exact h.len.symm) (fun i hi => by
      have hil : i < l.length := by have := h.len; simp only at this; omega
      obtain ⟨g', hg', hc⟩ := h.get (List.getElem?_eq_getElem hil)
      cases hg'
      rw [Nat.zero_add, hc]
      simp [List.getD, hil]) 9 und_string
    rw [strOfNums_bytes] at this
    exact this
/-- One byte of a row is stored. -/
theorem BRow.set (h : BRow w s l) {i : Nat} (hi : i < l.length) (b : UInt8) : ∃ g, s.p = some ⟨g, 0, none⟩ ∧ CanSt w ⟨g, i, none⟩ ∧ BRow (w.setCell ⟨g, i, none⟩ (.int .u8 (b.toNat : Int))) s (l.set i b) ∧ Ext (· = g) w (w.setCell ⟨g, i, none⟩ (.int .u8 (b.toNat : Int))) := by
  rcases h.2 with rfl | ⟨g, cur, hp, hg, hle, hsz, htk⟩
  · have := h.len
    simp only at this
    omega
  · have hlen := h.len
    have hlt : i < cur.size := by omega
    refine ⟨g, hp, hg.can hlt, ⟨by rw [bcs_len, List.length_set, hlen, Nat.mul_one], .inr ⟨g, _, hp, hg.set i _, hle, by simpa using hsz, ?_⟩⟩, (Ext.refl (· = g) w).set (.inl rfl) _⟩
    rw [Array.toList_setIfInBounds, List.take_set, htk]
    simp [bcs, List.map_set]
end
end Sh
end Go.Proofs.YtjkoafjnmkchdaaGreatDoor

/- The formulas of 28 functions of the program, written by program (gen.py); the kernel checks each. No condition. -/
namespace Go.Proofs.YtjkoafjnmkchdaaGreatDoor
open Sh
set_option linter.unusedVariables false
set_option maxRecDepth 100000

def CD26 (c1 : Addr) (c2 : Addr) (c3 : Addr) (u : Option Value) (w : World) (R : World → Prop) : Prop := CallD Tryz.prog 26 #[.pointer (some c1), .pointer (some c2), .pointer (some c3)] u w R
theorem CD26.mono {c1 : Addr} {c2 : Addr} {c3 : Addr} {u : Option Value} {w : World} {R R' : World → Prop} (h : CD26 c1 c2 c3 u w R) (hr : ∀ w', R w' → R' w') : CD26 c1 c2 c3 u w R' :=
  CallsD.mono h fun _ _ _ ⟨h1, h2, h3⟩ => ⟨h1, h2, hr _ h3⟩
def C27 (holds1 : Bool) (why2 : Int) (w : World) (R : World → Prop) (PR : Value → World → Prop) : Prop :=
  Calls Tryz.prog 27 #[.bool holds1, .int .i64 why2] w fun e w' => (e = .returned (.tuple #[]) ∧ R w') ∨ ∃ v, e = .panicked (onePanic v) ∧ PR v w'
theorem C27.mono {holds1 : Bool} {why2 : Int} {w : World} {R R' : World → Prop} {PR PR' : Value → World → Prop} (h : C27 holds1 why2 w R PR) (hr : ∀ w', R w' → R' w') (hp : ∀ v w', PR v w' → PR' v w') : C27 holds1 why2 w R' PR' :=
  Calls.mono h fun _ _ he => he.elim (fun ⟨he, hR⟩ => .inl ⟨he, hr _ hR⟩) fun ⟨v, he, hP⟩ => .inr ⟨v, he, hp _ _ hP⟩
def C71 (x1 : Int) (why2 : Int) (w : World) (R : Int → World → Prop) (PR : Value → World → Prop) : Prop :=
  Calls Tryz.prog 71 #[.int .i64 x1, .int .i64 why2] w fun e w' => (∃ r0 : Int, e = .returned (.int .i64 r0) ∧ R r0 w') ∨ ∃ v, e = .panicked (onePanic v) ∧ PR v w'
theorem C71.mono {x1 : Int} {why2 : Int} {w : World} {R R' : Int → World → Prop} {PR PR' : Value → World → Prop} (h : C71 x1 why2 w R PR) (hr : ∀ r0 w', R r0 w' → R' r0 w') (hp : ∀ v w', PR v w' → PR' v w') : C71 x1 why2 w R' PR' :=
  Calls.mono h fun _ _ he => he.elim (fun ⟨r0, he, hR⟩ => .inl ⟨r0, he, hr _ _ hR⟩) fun ⟨v, he, hP⟩ => .inr ⟨v, he, hp _ _ hP⟩
def C42 (f1 : Option Addr) (n2 : Int) (w : World) (R : Int → World → Prop) (PR : Value → World → Prop) : Prop :=
  Calls Tryz.prog 42 #[.pointer f1, .int .i64 n2] w fun e w' => (∃ r0 : Int, e = .returned (.int .i64 r0) ∧ R r0 w') ∨ ∃ v, e = .panicked (onePanic v) ∧ PR v w'
theorem C42.mono {f1 : Option Addr} {n2 : Int} {w : World} {R R' : Int → World → Prop} {PR PR' : Value → World → Prop} (h : C42 f1 n2 w R PR) (hr : ∀ r0 w', R r0 w' → R' r0 w') (hp : ∀ v w', PR v w' → PR' v w') : C42 f1 n2 w R' PR' :=
  Calls.mono h fun _ _ he => he.elim (fun ⟨r0, he, hR⟩ => .inl ⟨r0, he, hr _ _ hR⟩) fun ⟨v, he, hP⟩ => .inr ⟨v, he, hp _ _ hP⟩
def C74 (f1 : Option Addr) (n2 : Int) (w : World) (R : World → Prop) (PR : Value → World → Prop) : Prop :=
  Calls Tryz.prog 74 #[.pointer f1, .int .i64 n2] w fun e w' => (e = .returned (.tuple #[]) ∧ R w') ∨ ∃ v, e = .panicked (onePanic v) ∧ PR v w'
theorem C74.mono {f1 : Option Addr} {n2 : Int} {w : World} {R R' : World → Prop} {PR PR' : Value → World → Prop} (h : C74 f1 n2 w R PR) (hr : ∀ w', R w' → R' w') (hp : ∀ v w', PR v w' → PR' v w') : C74 f1 n2 w R' PR' :=
  Calls.mono h fun _ _ he => he.elim (fun ⟨he, hR⟩ => .inl ⟨he, hr _ hR⟩) fun ⟨v, he, hP⟩ => .inr ⟨v, he, hp _ _ hP⟩
def C75 (x1 : ByteArray) (why2 : Int) (w : World) (R : ByteArray → World → Prop) (PR : Value → World → Prop) : Prop :=
  Calls Tryz.prog 75 #[.string x1, .int .i64 why2] w fun e w' => (∃ r0 : ByteArray, e = .returned (.string r0) ∧ R r0 w') ∨ ∃ v, e = .panicked (onePanic v) ∧ PR v w'
theorem C75.mono {x1 : ByteArray} {why2 : Int} {w : World} {R R' : ByteArray → World → Prop} {PR PR' : Value → World → Prop} (h : C75 x1 why2 w R PR) (hr : ∀ r0 w', R r0 w' → R' r0 w') (hp : ∀ v w', PR v w' → PR' v w') : C75 x1 why2 w R' PR' :=
  Calls.mono h fun _ _ he => he.elim (fun ⟨r0, he, hR⟩ => .inl ⟨r0, he, hr _ _ hR⟩) fun ⟨v, he, hP⟩ => .inr ⟨v, he, hp _ _ hP⟩
def C43 (f1 : Option Addr) (w : World) (R : World → Prop) (PR : Value → World → Prop) : Prop :=
  Calls Tryz.prog 43 #[.pointer f1] w fun e w' => (e = .returned (.tuple #[]) ∧ R w') ∨ ∃ v, e = .panicked (onePanic v) ∧ PR v w'
theorem C43.mono {f1 : Option Addr} {w : World} {R R' : World → Prop} {PR PR' : Value → World → Prop} (h : C43 f1 w R PR) (hr : ∀ w', R w' → R' w') (hp : ∀ v w', PR v w' → PR' v w') : C43 f1 w R' PR' :=
  Calls.mono h fun _ _ he => he.elim (fun ⟨he, hR⟩ => .inl ⟨he, hr _ hR⟩) fun ⟨v, he, hP⟩ => .inr ⟨v, he, hp _ _ hP⟩
def C123 (x1 : Int) (y2 : Int) (w : World) (R : Int → Int → World → Prop) : Prop :=
  Calls Tryz.prog 123 #[.int .u64 x1, .int .u64 y2] w fun e w' => ∃ r0 : Int, ∃ r1 : Int, e = .returned (.tuple #[.int .u64 r0, .int .u64 r1]) ∧ R r0 r1 w'
theorem C123.mono {x1 : Int} {y2 : Int} {w : World} {R R' : Int → Int → World → Prop} (h : C123 x1 y2 w R) (hr : ∀ r0 r1 w', R r0 r1 w' → R' r0 r1 w') : C123 x1 y2 w R' :=
  Calls.mono h fun _ _ ⟨r0, r1, he, hR⟩ => ⟨r0, r1, he, hr _ _ _ hR⟩
def C110 (x1 : Int) (y2 : Int) (w : World) (R : Int → Int → World → Prop) : Prop :=
  Calls Tryz.prog 110 #[.int .u64 x1, .int .u64 y2] w fun e w' => ∃ r0 : Int, ∃ r1 : Int, e = .returned (.tuple #[.int .u64 r0, .int .u64 r1]) ∧ R r0 r1 w'
theorem C110.mono {x1 : Int} {y2 : Int} {w : World} {R R' : Int → Int → World → Prop} (h : C110 x1 y2 w R) (hr : ∀ r0 r1 w', R r0 r1 w' → R' r0 r1 w') : C110 x1 y2 w R' :=
  Calls.mono h fun _ _ ⟨r0, r1, he, hR⟩ => ⟨r0, r1, he, hr _ _ _ hR⟩
def C88 (x1 : Slc) (count2 : Int) (w : World) (R : Slc → World → Prop) (PR : Value → World → Prop) : Prop :=
  Calls Tryz.prog 88 #[Slc.v x1, .int .i64 count2] w fun e w' => (∃ r0 : Slc, e = .returned (Slc.v r0) ∧ R r0 w') ∨ ∃ v, e = .panicked (onePanic v) ∧ PR v w'
theorem C88.mono {x1 : Slc} {count2 : Int} {w : World} {R R' : Slc → World → Prop} {PR PR' : Value → World → Prop} (h : C88 x1 count2 w R PR) (hr : ∀ r0 w', R r0 w' → R' r0 w') (hp : ∀ v w', PR v w' → PR' v w') : C88 x1 count2 w R' PR' :=
  Calls.mono h fun _ _ he => he.elim (fun ⟨r0, he, hR⟩ => .inl ⟨r0, he, hr _ _ hR⟩) fun ⟨v, he, hP⟩ => .inr ⟨v, he, hp _ _ hP⟩
def C59 (w : World) (R : Slc → Slc → World → Prop) (PR : Value → World → Prop) : Prop :=
  Calls Tryz.prog 59 #[] w fun e w' => (∃ r0 : Slc, ∃ r1 : Slc, e = .returned (.tuple #[Slc.v r0, Slc.v r1]) ∧ R r0 r1 w') ∨ ∃ v, e = .panicked (onePanic v) ∧ PR v w'
theorem C59.mono {w : World} {R R' : Slc → Slc → World → Prop} {PR PR' : Value → World → Prop} (h : C59 w R PR) (hr : ∀ r0 r1 w', R r0 r1 w' → R' r0 r1 w') (hp : ∀ v w', PR v w' → PR' v w') : C59 w R' PR' :=
  Calls.mono h fun _ _ he => he.elim (fun ⟨r0, r1, he, hR⟩ => .inl ⟨r0, r1, he, hr _ _ _ hR⟩) fun ⟨v, he, hP⟩ => .inr ⟨v, he, hp _ _ hP⟩
def C102 (f1 : Option Addr) (sign2 : Int) (distances3 : Option Addr) (w : World) (R : World → Prop) (PR : Value → World → Prop) : Prop :=
  Calls Tryz.prog 102 #[.pointer f1, .int .i64 sign2, .pointer distances3] w fun e w' => (e = .returned (.tuple #[]) ∧ R w') ∨ ∃ v, e = .panicked (onePanic v) ∧ PR v w'
theorem C102.mono {f1 : Option Addr} {sign2 : Int} {distances3 : Option Addr} {w : World} {R R' : World → Prop} {PR PR' : Value → World → Prop} (h : C102 f1 sign2 distances3 w R PR) (hr : ∀ w', R w' → R' w') (hp : ∀ v w', PR v w' → PR' v w') : C102 f1 sign2 distances3 w R' PR' :=
  Calls.mono h fun _ _ he => he.elim (fun ⟨he, hR⟩ => .inl ⟨he, hr _ hR⟩) fun ⟨v, he, hP⟩ => .inr ⟨v, he, hp _ _ hP⟩
def C77 (f1 : Option Addr) (signs2 : Option Addr) (distances3 : Option Addr) (w : World) (R : World → Prop) (PR : Value → World → Prop) : Prop :=
  Calls Tryz.prog 77 #[.pointer f1, .pointer signs2, .pointer distances3] w fun e w' => (e = .returned (.tuple #[]) ∧ R w') ∨ ∃ v, e = .panicked (onePanic v) ∧ PR v w'
theorem C77.mono {f1 : Option Addr} {signs2 : Option Addr} {distances3 : Option Addr} {w : World} {R R' : World → Prop} {PR PR' : Value → World → Prop} (h : C77 f1 signs2 distances3 w R PR) (hr : ∀ w', R w' → R' w') (hp : ∀ v w', PR v w' → PR' v w') : C77 f1 signs2 distances3 w R' PR' :=
  Calls.mono h fun _ _ he => he.elim (fun ⟨he, hR⟩ => .inl ⟨he, hr _ hR⟩) fun ⟨v, he, hP⟩ => .inr ⟨v, he, hp _ _ hP⟩
def C78 (x1 : Option Addr) (why2 : Int) (w : World) (R : Option Addr → World → Prop) (PR : Value → World → Prop) : Prop :=
  Calls Tryz.prog 78 #[.pointer x1, .int .i64 why2] w fun e w' => (∃ r0 : Option Addr, e = .returned (.pointer r0) ∧ R r0 w') ∨ ∃ v, e = .panicked (onePanic v) ∧ PR v w'
theorem C78.mono {x1 : Option Addr} {why2 : Int} {w : World} {R R' : Option Addr → World → Prop} {PR PR' : Value → World → Prop} (h : C78 x1 why2 w R PR) (hr : ∀ r0 w', R r0 w' → R' r0 w') (hp : ∀ v w', PR v w' → PR' v w') : C78 x1 why2 w R' PR' :=
  Calls.mono h fun _ _ he => he.elim (fun ⟨r0, he, hR⟩ => .inl ⟨r0, he, hr _ _ hR⟩) fun ⟨v, he, hP⟩ => .inr ⟨v, he, hp _ _ hP⟩
def C44 (f1 : Option Addr) (w : World) (R : World → Prop) (PR : Value → World → Prop) : Prop :=
  Calls Tryz.prog 44 #[.pointer f1] w fun e w' => (e = .returned (.tuple #[]) ∧ R w') ∨ ∃ v, e = .panicked (onePanic v) ∧ PR v w'
theorem C44.mono {f1 : Option Addr} {w : World} {R R' : World → Prop} {PR PR' : Value → World → Prop} (h : C44 f1 w R PR) (hr : ∀ w', R w' → R' w') (hp : ∀ v w', PR v w' → PR' v w') : C44 f1 w R' PR' :=
  Calls.mono h fun _ _ he => he.elim (fun ⟨he, hR⟩ => .inl ⟨he, hr _ hR⟩) fun ⟨v, he, hP⟩ => .inr ⟨v, he, hp _ _ hP⟩
def C79 (f1 : Option Addr) (t2 : Option Addr) (n3 : Int) (w : World) (R : Slc → World → Prop) (PR : Value → World → Prop) : Prop :=
  Calls Tryz.prog 79 #[.pointer f1, .pointer t2, .int .i64 n3] w fun e w' => (∃ r0 : Slc, e = .returned (Slc.v r0) ∧ R r0 w') ∨ ∃ v, e = .panicked (onePanic v) ∧ PR v w'
theorem C79.mono {f1 : Option Addr} {t2 : Option Addr} {n3 : Int} {w : World} {R R' : Slc → World → Prop} {PR PR' : Value → World → Prop} (h : C79 f1 t2 n3 w R PR) (hr : ∀ r0 w', R r0 w' → R' r0 w') (hp : ∀ v w', PR v w' → PR' v w') : C79 f1 t2 n3 w R' PR' :=
  Calls.mono h fun _ _ he => he.elim (fun ⟨r0, he, hR⟩ => .inl ⟨r0, he, hr _ _ hR⟩) fun ⟨v, he, hP⟩ => .inr ⟨v, he, hp _ _ hP⟩
def C45 (f1 : Option Addr) (w : World) (R : World → Prop) (PR : Value → World → Prop) : Prop :=
  Calls Tryz.prog 45 #[.pointer f1] w fun e w' => (e = .returned (.tuple #[]) ∧ R w') ∨ ∃ v, e = .panicked (onePanic v) ∧ PR v w'
theorem C45.mono {f1 : Option Addr} {w : World} {R R' : World → Prop} {PR PR' : Value → World → Prop} (h : C45 f1 w R PR) (hr : ∀ w', R w' → R' w') (hp : ∀ v w', PR v w' → PR' v w') : C45 f1 w R' PR' :=
  Calls.mono h fun _ _ he => he.elim (fun ⟨he, hR⟩ => .inl ⟨he, hr _ hR⟩) fun ⟨v, he, hP⟩ => .inr ⟨v, he, hp _ _ hP⟩
def C29 (f1 : Option Addr) (w : World) (R : Bool → World → Prop) (PR : Value → World → Prop) : Prop :=
  Calls Tryz.prog 29 #[.pointer f1] w fun e w' => (∃ r0 : Bool, e = .returned (.bool r0) ∧ R r0 w') ∨ ∃ v, e = .panicked (onePanic v) ∧ PR v w'
theorem C29.mono {f1 : Option Addr} {w : World} {R R' : Bool → World → Prop} {PR PR' : Value → World → Prop} (h : C29 f1 w R PR) (hr : ∀ r0 w', R r0 w' → R' r0 w') (hp : ∀ v w', PR v w' → PR' v w') : C29 f1 w R' PR' :=
  Calls.mono h fun _ _ he => he.elim (fun ⟨r0, he, hR⟩ => .inl ⟨r0, he, hr _ _ hR⟩) fun ⟨v, he, hP⟩ => .inr ⟨v, he, hp _ _ hP⟩
def C14 (s1 : ByteArray) (most2 : Int) (w : World) (R : ByteArray → Int → Int → World → Prop) : Prop :=
  Calls Tryz.prog 14 #[.string s1, .int .i64 most2] w fun e w' => ∃ r0 : ByteArray, ∃ r1 : Int, ∃ r2 : Int, e = .returned (.tuple #[.string r0, .int .i64 r1, .int .i64 r2]) ∧ R r0 r1 r2 w'
theorem C14.mono {s1 : ByteArray} {most2 : Int} {w : World} {R R' : ByteArray → Int → Int → World → Prop} (h : C14 s1 most2 w R) (hr : ∀ r0 r1 r2 w', R r0 r1 r2 w' → R' r0 r1 r2 w') : C14 s1 most2 w R' :=
  Calls.mono h fun _ _ ⟨r0, r1, r2, he, hR⟩ => ⟨r0, r1, r2, he, hr _ _ _ _ hR⟩
def C31 (s1 : ByteArray) (vat2 : Int) (n3 : Int) (w : World) (R : Int → Int → Int → World → Prop) : Prop :=
  Calls Tryz.prog 31 #[.string s1, .int .i64 vat2, .int .i64 n3] w fun e w' => ∃ r0 : Int, ∃ r1 : Int, ∃ r2 : Int, e = .returned (.tuple #[.int .i64 r0, .int .i64 r1, .int .i64 r2]) ∧ R r0 r1 r2 w'
theorem C31.mono {s1 : ByteArray} {vat2 : Int} {n3 : Int} {w : World} {R R' : Int → Int → Int → World → Prop} (h : C31 s1 vat2 n3 w R) (hr : ∀ r0 r1 r2 w', R r0 r1 r2 w' → R' r0 r1 r2 w') : C31 s1 vat2 n3 w R' :=
  Calls.mono h fun _ _ ⟨r0, r1, r2, he, hR⟩ => ⟨r0, r1, r2, he, hr _ _ _ _ hR⟩
def C47 (s1 : ByteArray) (vfrom2 : Int) (out3 : Slc) (most4 : Int) (w : World) (R : Slc → Int → Int → World → Prop) : Prop :=
  Calls Tryz.prog 47 #[.string s1, .int .i64 vfrom2, Slc.v out3, .int .i64 most4] w fun e w' => ∃ r0 : Slc, ∃ r1 : Int, ∃ r2 : Int, e = .returned (.tuple #[Slc.v r0, .int .i64 r1, .int .i64 r2]) ∧ R r0 r1 r2 w'
theorem C47.mono {s1 : ByteArray} {vfrom2 : Int} {out3 : Slc} {most4 : Int} {w : World} {R R' : Slc → Int → Int → World → Prop} (h : C47 s1 vfrom2 out3 most4 w R) (hr : ∀ r0 r1 r2 w', R r0 r1 r2 w' → R' r0 r1 r2 w') : C47 s1 vfrom2 out3 most4 w R' :=
  Calls.mono h fun _ _ ⟨r0, r1, r2, he, hR⟩ => ⟨r0, r1, r2, he, hr _ _ _ _ hR⟩
def C48 (w : World) (R : Slc → Slc → World → Prop) : Prop :=
  Calls Tryz.prog 48 #[] w fun e w' => ∃ r0 : Slc, ∃ r1 : Slc, e = .returned (.tuple #[Slc.v r0, Slc.v r1]) ∧ R r0 r1 w'
theorem C48.mono {w : World} {R R' : Slc → Slc → World → Prop} (h : C48 w R) (hr : ∀ r0 r1 w', R r0 r1 w' → R' r0 r1 w') : C48 w R' :=
  Calls.mono h fun _ _ ⟨r0, r1, he, hR⟩ => ⟨r0, r1, he, hr _ _ _ hR⟩
def C81 (s1 : ByteArray) (vat2 : Int) (lens3 : Slc) (many4 : Int) (w : World) (R : Slc → Int → Int → World → Prop) : Prop :=
  Calls Tryz.prog 81 #[.string s1, .int .i64 vat2, Slc.v lens3, .int .i64 many4] w fun e w' => ∃ r0 : Slc, ∃ r1 : Int, ∃ r2 : Int, e = .returned (.tuple #[Slc.v r0, .int .i64 r1, .int .i64 r2]) ∧ R r0 r1 r2 w'
theorem C81.mono {s1 : ByteArray} {vat2 : Int} {lens3 : Slc} {many4 : Int} {w : World} {R R' : Slc → Int → Int → World → Prop} (h : C81 s1 vat2 lens3 many4 w R) (hr : ∀ r0 r1 r2 w', R r0 r1 r2 w' → R' r0 r1 r2 w') : C81 s1 vat2 lens3 many4 w R' :=
  Calls.mono h fun _ _ ⟨r0, r1, r2, he, hR⟩ => ⟨r0, r1, r2, he, hr _ _ _ _ hR⟩
def C49 (s1 : ByteArray) (vfrom2 : Int) (w : World) (R : Slc → Slc → Int → Int → World → Prop) : Prop :=
  Calls Tryz.prog 49 #[.string s1, .int .i64 vfrom2] w fun e w' => ∃ r0 : Slc, ∃ r1 : Slc, ∃ r2 : Int, ∃ r3 : Int, e = .returned (.tuple #[Slc.v r0, Slc.v r1, .int .i64 r2, .int .i64 r3]) ∧ R r0 r1 r2 r3 w'
theorem C49.mono {s1 : ByteArray} {vfrom2 : Int} {w : World} {R R' : Slc → Slc → Int → Int → World → Prop} (h : C49 s1 vfrom2 w R) (hr : ∀ r0 r1 r2 r3 w', R r0 r1 r2 r3 w' → R' r0 r1 r2 r3 w') : C49 s1 vfrom2 w R' :=
  Calls.mono h fun _ _ ⟨r0, r1, r2, r3, he, hR⟩ => ⟨r0, r1, r2, r3, he, hr _ _ _ _ _ hR⟩
def C84 (s1 : ByteArray) (vat2 : Int) (sign3 : Int) (far4 : Slc) (out5 : Slc) (most6 : Int) (w : World) (R : Slc → Int → Int → World → Prop) : Prop :=
  Calls Tryz.prog 84 #[.string s1, .int .i64 vat2, .int .i64 sign3, Slc.v far4, Slc.v out5, .int .i64 most6] w fun e w' => ∃ r0 : Slc, ∃ r1 : Int, ∃ r2 : Int, e = .returned (.tuple #[Slc.v r0, .int .i64 r1, .int .i64 r2]) ∧ R r0 r1 r2 w'
theorem C84.mono {s1 : ByteArray} {vat2 : Int} {sign3 : Int} {far4 : Slc} {out5 : Slc} {most6 : Int} {w : World} {R R' : Slc → Int → Int → World → Prop} (h : C84 s1 vat2 sign3 far4 out5 most6 w R) (hr : ∀ r0 r1 r2 w', R r0 r1 r2 w' → R' r0 r1 r2 w') : C84 s1 vat2 sign3 far4 out5 most6 w R' :=
  Calls.mono h fun _ _ ⟨r0, r1, r2, he, hR⟩ => ⟨r0, r1, r2, he, hr _ _ _ _ hR⟩
def C51 (s1 : ByteArray) (vat2 : Int) (near3 : Slc) (far4 : Slc) (out5 : Slc) (most6 : Int) (w : World) (R : Slc → Int → Int → World → Prop) : Prop :=
  Calls Tryz.prog 51 #[.string s1, .int .i64 vat2, Slc.v near3, Slc.v far4, Slc.v out5, .int .i64 most6] w fun e w' => ∃ r0 : Slc, ∃ r1 : Int, ∃ r2 : Int, e = .returned (.tuple #[Slc.v r0, .int .i64 r1, .int .i64 r2]) ∧ R r0 r1 r2 w'
theorem C51.mono {s1 : ByteArray} {vat2 : Int} {near3 : Slc} {far4 : Slc} {out5 : Slc} {most6 : Int} {w : World} {R R' : Slc → Int → Int → World → Prop} (h : C51 s1 vat2 near3 far4 out5 most6 w R) (hr : ∀ r0 r1 r2 w', R r0 r1 r2 w' → R' r0 r1 r2 w') : C51 s1 vat2 near3 far4 out5 most6 w R' :=
  Calls.mono h fun _ _ ⟨r0, r1, r2, he, hR⟩ => ⟨r0, r1, r2, he, hr _ _ _ _ hR⟩
def C32 (s1 : ByteArray) (vat2 : Int) (kind3 : Int) (out4 : Slc) (most5 : Int) (w : World) (R : Slc → Int → Int → World → Prop) : Prop :=
  Calls Tryz.prog 32 #[.string s1, .int .i64 vat2, .int .i64 kind3, Slc.v out4, .int .i64 most5] w fun e w' => ∃ r0 : Slc, ∃ r1 : Int, ∃ r2 : Int, e = .returned (.tuple #[Slc.v r0, .int .i64 r1, .int .i64 r2]) ∧ R r0 r1 r2 w'
theorem C32.mono {s1 : ByteArray} {vat2 : Int} {kind3 : Int} {out4 : Slc} {most5 : Int} {w : World} {R R' : Slc → Int → Int → World → Prop} (h : C32 s1 vat2 kind3 out4 most5 w R) (hr : ∀ r0 r1 r2 w', R r0 r1 r2 w' → R' r0 r1 r2 w') : C32 s1 vat2 kind3 out4 most5 w R' :=
  Calls.mono h fun _ _ ⟨r0, r1, r2, he, hR⟩ => ⟨r0, r1, r2, he, hr _ _ _ _ hR⟩
def C16 (s1 : ByteArray) (most2 : Int) (w : World) (R : ByteArray → Int → Int → World → Prop) : Prop :=
  Calls Tryz.prog 16 #[.string s1, .int .i64 most2] w fun e w' => ∃ r0 : ByteArray, ∃ r1 : Int, ∃ r2 : Int, e = .returned (.tuple #[.string r0, .int .i64 r1, .int .i64 r2]) ∧ R r0 r1 r2 w'
theorem C16.mono {s1 : ByteArray} {most2 : Int} {w : World} {R R' : ByteArray → Int → Int → World → Prop} (h : C16 s1 most2 w R) (hr : ∀ r0 r1 r2 w', R r0 r1 r2 w' → R' r0 r1 r2 w') : C16 s1 most2 w R' :=
  Calls.mono h fun _ _ ⟨r0, r1, r2, he, hR⟩ => ⟨r0, r1, r2, he, hr _ _ _ _ hR⟩

/-- foliant/inflate.All$1 -/
def S26_nil (c1 : Addr) (c2 : Addr) (c3 : Addr) (w : World) (R : World → Prop) : Prop :=
  R w
def pl26_nil : Plan := (.block (.seq (.reg .seq) (.cond (.reg .seq) (.seq (.reg .seq) (.cond (.seq (.reg .seq) (.reg (.held [4] (.take 0 (.take 1 (.eff 2 none (.eff 3 none (.eff 4 (some []) .done)))))))) (.seq (.reg .seq) (.reg .seq)))))))
set_option maxRecDepth 100000 in
theorem T26_nil (c1 : Addr) (c2 : Addr) (c3 : Addr) (w : World) (R : World → Prop) (h : S26_nil c1 c2 c3 w R) : CD26 c1 c2 c3 none w R := by
  have e : fnTS Tryz.prog FF MAY pl26_nil Tryz.f26 [.pointer (some c1), .pointer (some c2), .pointer (some c3)] none w R = S26_nil c1 c2 c3 w R := by kernel_rfl
  exact fnS_calls okF okM Tryz.func26 (by kernel_rfl) (by kernel_rfl) (e.mpr h)

/-- foliant/inflate.All$1 -/
def S26_T51 (c1 : Addr) (c2 : Addr) (c3 : Addr) (u4 : Int) (w : World) (R : World → Prop) : Prop :=
  Nw w (.cells #[.int .i64 0] 51) fun vw5 =>
  St vw5 (⟨w.heap.size, 0, none⟩ : Addr) (.int .i64 u4) fun vw6 =>
  ∃ vS7 : World → Prop, vS7 vw6.drew ∧ LdS vS7 (⟨w.heap.size, 0, none⟩ : Addr) (Value.int .i64) fun (x8 : Int) =>
  St vw6.drew c1 (.string ((⟨#[]⟩ : ByteArray))) fun vw9 =>
  vS7 vw9 ∧ St vw9 c2 (.int .i64 0) fun vw10 =>
  vS7 vw10 ∧ St vw10 c3 (.int .i64 x8) fun vw11 =>
  R vw11
def pl26_T51 : Plan := (.block (.seq (.reg .seq) (.cond (.reg .seq) (.seq (.reg .seq) (.cond (.seq (.reg .seq) (.reg (.held [4] (.take 0 (.take 1 (.eff 2 none (.eff 3 none (.eff 4 (some []) .done)))))))) (.seq (.reg .seq) (.reg .seq)))))))
set_option maxRecDepth 100000 in
theorem T26_T51 (c1 : Addr) (c2 : Addr) (c3 : Addr) (u4 : Int) (w : World) (R : World → Prop) (h : S26_T51 c1 c2 c3 u4 w R) : CD26 c1 c2 c3 (some (.iface 51 (.agg #[.int .i64 u4]))) w R := by
  have e : fnTS Tryz.prog FF MAY pl26_T51 Tryz.f26 [.pointer (some c1), .pointer (some c2), .pointer (some c3)] (some (.iface 51 (.agg #[.int .i64 u4]))) w R = S26_T51 c1 c2 c3 u4 w R := by kernel_rfl
  exact fnS_calls okF okM Tryz.func26 (by kernel_rfl) (by kernel_rfl) (e.mpr h)

/-- foliant/inflate.need -/
def S27 (holds1 : Bool) (why2 : Int) (w : World) (R : World → Prop) (PR : Value → World → Prop) : Prop :=
  Br (!holds1) (PR (.iface 51 (.agg #[.int .i64 why2])) w) (R w)
def pl27 : Plan := (.seq (.reg .seq) (.cond (.reg .seq) .leaf))
set_option maxRecDepth 100000 in
theorem T27 (holds1 : Bool) (why2 : Int) (w : World) (R : World → Prop) (PR : Value → World → Prop) (h : S27 holds1 why2 w R PR) : C27 holds1 why2 w R PR := by
  have e : fnT Tryz.prog ⟨FF, MAY, PR⟩ pl27 Tryz.f27 [.bool holds1, .int .i64 why2] w [] (fun _ w => R w) = S27 holds1 why2 w R PR := by kernel_rfl
  exact (fn_callsP okF okM Tryz.func27 (by kernel_rfl) (by kernel_rfl) (e.mpr h)).mono fun _ _ he => he.elim (fun ⟨_, he, hR⟩ => .inl ⟨he, hR⟩) .inr

/-- foliant/inflate.must[int] -/
def S71 (x1 : Int) (why2 : Int) (w : World) (R : Int → World → Prop) (PR : Value → World → Prop) : Prop :=
  C27 (why2 == 0) why2 w (fun vw3 =>
    R x1 vw3) PR
def pl71 : Plan := (.seq (.reg .seq) (.seq (.reg .seq) (.seq (.reg .seq) .leaf)))
set_option maxRecDepth 100000 in
theorem T71 (x1 : Int) (why2 : Int) (w : World) (R : Int → World → Prop) (PR : Value → World → Prop) (h : S71 x1 why2 w R PR) : C71 x1 why2 w R PR := by
  have e : fnT Tryz.prog ⟨FF, MAY, PR⟩ pl71 Tryz.f71 [.int .i64 x1, .int .i64 why2] w [(.one (.int .i64))] (fun s w => R s w) = S71 x1 why2 w R PR := by kernel_rfl
  exact (fn_callsP okF okM Tryz.func71 (by kernel_rfl) (by kernel_rfl) (e.mpr h)).mono fun _ _ he => he.elim (fun ⟨s, he, hR⟩ => .inl ⟨s, he, hR⟩) .inr

/-- (*foliant/inflate.flate).bits -/
def S42 (f1 : Option Addr) (n2 : Int) (w : World) (R : Int → World → Prop) (PR : Value → World → Prop) : Prop :=
  Nn f1 fun a3 =>
  Ld w a3 Value.pointer fun (x4 : Option Addr) =>
  C72 x4 n2 w fun r5 r6 vw7 =>
    C71 r5 r6 vw7 (fun r8 vw9 =>
      R r8 vw9) PR
def pl42 : Plan := (.seq (.reg .seq) (.seq (.reg .seq) .leaf))
set_option maxRecDepth 100000 in
theorem T42 (f1 : Option Addr) (n2 : Int) (w : World) (R : Int → World → Prop) (PR : Value → World → Prop) (h : S42 f1 n2 w R PR) : C42 f1 n2 w R PR := by
  have e : fnT Tryz.prog ⟨FF, MAY, PR⟩ pl42 Tryz.f42 [.pointer f1, .int .i64 n2] w [(.one (.int .i64))] (fun s w => R s w) = S42 f1 n2 w R PR := by kernel_rfl
  exact (fn_callsP okF okM Tryz.func42 (by kernel_rfl) (by kernel_rfl) (e.mpr h)).mono fun _ _ he => he.elim (fun ⟨s, he, hR⟩ => .inl ⟨s, he, hR⟩) .inr

/-- (*foliant/inflate.flate).room -/
def S74 (f1 : Option Addr) (n2 : Int) (w : World) (R : World → Prop) (PR : Value → World → Prop) : Prop :=
  Nn f1 fun a3 =>
  Ld w.drew (a3.add 1) Slc.v fun (x4 : Slc) =>
  Nn f1 fun a5 =>
  Ld w.drew (a5.add 2) (Value.int .i64) fun (x6 : Int) =>
  C27 (decide ((IntKind.i64.wrap (((x4.len : Nat) : Int) + n2)) ≤ x6)) 5 w.drew (fun vw7 =>
    R vw7) PR
def pl74 : Plan := (.reg (.tail 12))
set_option maxRecDepth 100000 in
theorem T74 (f1 : Option Addr) (n2 : Int) (w : World) (R : World → Prop) (PR : Value → World → Prop) (h : S74 f1 n2 w R PR) : C74 f1 n2 w R PR := by
  have e : fnT Tryz.prog ⟨FF, MAY, PR⟩ pl74 Tryz.f74 [.pointer f1, .int .i64 n2] w [] (fun _ w => R w) = S74 f1 n2 w R PR := by kernel_rfl
  exact (fn_callsP okF okM Tryz.func74 (by kernel_rfl) (by kernel_rfl) (e.mpr h)).mono fun _ _ he => he.elim (fun ⟨_, he, hR⟩ => .inl ⟨he, hR⟩) .inr

/-- foliant/inflate.must[string] -/
def S75 (x1 : ByteArray) (why2 : Int) (w : World) (R : ByteArray → World → Prop) (PR : Value → World → Prop) : Prop :=
  C27 (why2 == 0) why2 w (fun vw3 =>
    R x1 vw3) PR
def pl75 : Plan := (.seq (.reg .seq) (.seq (.reg .seq) (.seq (.reg .seq) .leaf)))
set_option maxRecDepth 100000 in
theorem T75 (x1 : ByteArray) (why2 : Int) (w : World) (R : ByteArray → World → Prop) (PR : Value → World → Prop) (h : S75 x1 why2 w R PR) : C75 x1 why2 w R PR := by
  have e : fnT Tryz.prog ⟨FF, MAY, PR⟩ pl75 Tryz.f75 [.string x1, .int .i64 why2] w [(.one .str)] (fun s w => R s w) = S75 x1 why2 w R PR := by kernel_rfl
  exact (fn_callsP okF okM Tryz.func75 (by kernel_rfl) (by kernel_rfl) (e.mpr h)).mono fun _ _ he => he.elim (fun ⟨s, he, hR⟩ => .inl ⟨s, he, hR⟩) .inr

/-- (*foliant/inflate.flate).stored -/
def S43 (f1 : Option Addr) (w : World) (R : World → Prop) (PR : Value → World → Prop) : Prop :=
  Nn f1 fun a2 =>
  Ld w a2 Value.pointer fun (x3 : Option Addr) =>
  C73 x3 w fun vw4 =>
    C42 f1 16 vw4 (fun r5 vw6 =>
      C42 f1 16 vw6 (fun r7 vw8 =>
        C27 (r7 == (IntKind.i64.wrap (65535 - r5))) 3 vw8 (fun vw9 =>
          C74 f1 r5 vw9 (fun vw10 =>
            ∃ vS11 : World → Prop, vS11 vw10.drew ∧ Nn f1 fun a12 =>
            LdS vS11 (a12.add 1) Slc.v fun (x13 : Slc) =>
            Nn f1 fun a14 =>
            LdS vS11 a14 Value.pointer fun (x15 : Option Addr) =>
            C76 x15 r5 vw10.drew fun r16 r17 vw18 =>
              vS11 vw18 ∧ C75 r16 r17 vw18 (fun r19 vw20 =>
                vS11 vw20 ∧ Rn Tryz.prog (Builtin.append_ #[29, 9] 29 #[Slc.v x13, .string r19]) vw20 Slc.v fun (x21 : Slc) vw22 =>
                Nn f1 fun a23 =>
                St vw22 (a23.add 1) (Slc.v x21) fun vw24 =>
                R vw24) PR) PR) PR) PR) PR
def pl43 : Plan := (.seq (.reg .seq) (.seq (.reg .seq) (.seq (.reg .seq) (.seq (.reg .seq) (.reg (.held [14] (.take 0 (.take 1 (.take 2 (.take 3 (.take 4 (.take 5 (.take 6 (.take 7 (.take 8 (.take 9 (.eff 10 none (.take 11 (.take 12 (.eff 13 none (.eff 14 (some [17]) (.take 15 (.take 16 (.eff 17 (some []) .done))))))))))))))))))))))))
set_option maxRecDepth 100000 in
theorem T43 (f1 : Option Addr) (w : World) (R : World → Prop) (PR : Value → World → Prop) (h : S43 f1 w R PR) : C43 f1 w R PR := by
  have e : fnT Tryz.prog ⟨FF, MAY, PR⟩ pl43 Tryz.f43 [.pointer f1] w [] (fun _ w => R w) = S43 f1 w R PR := by kernel_rfl
  exact (fn_callsP okF okM Tryz.func43 (by kernel_rfl) (by kernel_rfl) (e.mpr h)).mono fun _ _ he => he.elim (fun ⟨_, he, hR⟩ => .inl ⟨he, hR⟩) .inr

/-- math/bits.Mul64 -/
def S123 (x1 : Int) (y2 : Int) (w : World) (R : Int → Int → World → Prop) : Prop :=
  Lt (Int.fdiv (IntKind.u64.wrap ((iand .u64 x1 4294967295) * (iand .u64 y2 4294967295))) (2 ^ 32)) fun (x3 : Int) =>
  Lt (IntKind.u64.wrap ((IntKind.u64.wrap ((Int.fdiv x1 (2 ^ 32)) * (iand .u64 y2 4294967295))) + x3)) fun (x4 : Int) =>
  Lt (IntKind.u64.wrap ((iand .u64 x4 4294967295) + (IntKind.u64.wrap ((iand .u64 x1 4294967295) * (Int.fdiv y2 (2 ^ 32)))))) fun (x5 : Int) =>
  Lt (IntKind.u64.wrap ((IntKind.u64.wrap ((Int.fdiv x1 (2 ^ 32)) * (Int.fdiv y2 (2 ^ 32)))) + (Int.fdiv x4 (2 ^ 32)))) fun (x6 : Int) =>
  R (IntKind.u64.wrap (x6 + (Int.fdiv x5 (2 ^ 32)))) (IntKind.u64.wrap (x1 * y2)) w
def pl123 : Plan := (.seq (.reg .seq) (.seq (.reg .seq) (.seq (.reg .seq) (.seq (.reg .seq) (.seq (.reg .seq) (.seq (.reg .seq) (.seq (.reg .seq) (.seq (.reg .seq) (.seq (.reg .seq) (.seq (.reg .seq) (.seq (.reg .seq) (.seq (.reg .seq) .leaf))))))))))))
set_option maxRecDepth 100000 in
theorem T123 (x1 : Int) (y2 : Int) (w : World) (R : Int → Int → World → Prop) (h : S123 x1 y2 w R) : C123 x1 y2 w R := by
  have e : fnT Tryz.prog ⟨FF, MAY, (fun _ _ => False)⟩ pl123 Tryz.f123 [.int .u64 x1, .int .u64 y2] w [(.one (.int .u64)), (.one (.int .u64))] (fun s w => R s.1 s.2 w) = S123 x1 y2 w R := by kernel_rfl
  exact (fn_calls okF okM Tryz.func123 (by kernel_rfl) (by kernel_rfl) (e.mpr h)).mono fun _ _ ⟨s, he, hR⟩ => ⟨s.1, s.2, he, hR⟩

/-- math/bits.Mul -/
def S110 (x1 : Int) (y2 : Int) (w : World) (R : Int → Int → World → Prop) : Prop :=
  C123 x1 y2 w fun r3 r4 vw5 =>
    R r3 r4 vw5
def pl110 : Plan := (.seq (.reg .seq) (.seq (.cond (.seq (.reg .seq) (.seq (.reg .seq) .leaf)) .leaf) (.seq (.reg .seq) (.seq (.reg .seq) .leaf))))
set_option maxRecDepth 100000 in
theorem T110 (x1 : Int) (y2 : Int) (w : World) (R : Int → Int → World → Prop) (h : S110 x1 y2 w R) : C110 x1 y2 w R := by
  have e : fnT Tryz.prog ⟨FF, MAY, (fun _ _ => False)⟩ pl110 Tryz.f110 [.int .u64 x1, .int .u64 y2] w [(.one (.int .u64)), (.one (.int .u64))] (fun s w => R s.1 s.2 w) = S110 x1 y2 w R := by kernel_rfl
  exact (fn_calls okF okM Tryz.func110 (by kernel_rfl) (by kernel_rfl) (e.mpr h)).mono fun _ _ ⟨s, he, hR⟩ => ⟨s.1, s.2, he, hR⟩

def S88L1 (x6 : Slc) (R : Slc → World → Prop) (I12 : Int → World → Prop) (s10 : Int) (vw11 : World) : Prop :=
  Br (decide (s10 < ((x6.len : Nat) : Int))) (0 ≤ s10 ∧ s10 ≤ ((x6.len : Nat) : Int) ∧ 0 ≤ s10 ∧ s10 ≤ ((x6.cap : Nat) : Int) ∧ Rn Tryz.prog (Builtin.copy_ #[76, 76] 3 #[Slc.v (x6.cut 1 ((s10).toNat) x6.len x6.cap), Slc.v (x6.cut 1 0 ((s10).toNat) x6.cap)]) vw11.drew (Value.int .i64) fun (x13 : Int) vw14 =>
    I12 (IntKind.i64.wrap (s10 + x13)) vw14) (R x6 vw11)
/-- slices.Repeat[[]int,int] -/
def S88 (x1 : Slc) (count2 : Int) (w : World) (R : Slc → World → Prop) (PR : Value → World → Prop) : Prop :=
  Br (decide (count2 < 0)) (PR (.iface 9 (.string ((⟨#[99, 97, 110, 110, 111, 116, 32, 98, 101, 32, 110, 101, 103, 97, 116, 105, 118, 101]⟩ : ByteArray)))) w) (C110 (IntKind.u64.wrap ((x1.len : Nat) : Int)) (IntKind.u64.wrap count2) w fun r3 r4 vw5 =>
      Br (decide (r3 > 0)) (PR (.iface 9 (.string ((⟨#[116, 104, 101, 32, 114, 101, 115, 117, 108, 116, 32, 111, 102, 32, 40, 108, 101, 110, 40, 120, 41, 32, 42, 32, 99, 111, 117, 110, 116, 41, 32, 111, 118, 101, 114, 102, 108, 111, 119, 115]⟩ : ByteArray)))) vw5) (Br (decide (r4 > 9223372036854775807)) (PR (.iface 9 (.string ((⟨#[116, 104, 101, 32, 114, 101, 115, 117, 108, 116, 32, 111, 102, 32, 40, 108, 101, 110, 40, 120, 41, 32, 42, 32, 99, 111, 117, 110, 116, 41, 32, 111, 118, 101, 114, 102, 108, 111, 119, 115]⟩ : ByteArray)))) vw5) (Rn Tryz.prog (Instr.makeSlice 76 (.int .i64 (IntKind.i64.wrap r4)) (.int .i64 (IntKind.i64.wrap r4))) vw5 Slc.v fun (x6 : Slc) vw7 =>
          Rn Tryz.prog (Builtin.copy_ #[76, 76] 3 #[Slc.v x6, Slc.v x1]) vw7 (Value.int .i64) fun (x8 : Int) vw9 =>
          Lp (σ := Int) (S88L1 x6 R) x8 vw9)))
def pl88 : Plan := (.seq (.reg .seq) (.seq (.seq (.reg .seq) (.cond (.reg .seq) .leaf)) (.seq (.reg .seq) (.seq (.seq (.reg .seq) (.cond (.reg .seq) .leaf)) (.seq (.reg .seq) (.seq (.reg .seq) (.seq (.block (.loop [(8, (.one (.int .i64)))] [7] (.seq (.seq (.reg .seq) (.cond .leaf .leaf)) (.block (.reg (.held [7] (.take 0 (.take 1 (.take 2 (.take 3 (.take 4 (.take 5 (.take 6 (.eff 7 (some []) (.take 8 (.take 9 .done)))))))))))))))) (.seq (.reg .seq) .leaf))))))))
set_option maxRecDepth 100000 in
theorem T88 (x1 : Slc) (count2 : Int) (w : World) (R : Slc → World → Prop) (PR : Value → World → Prop) (h : S88 x1 count2 w R PR) : C88 x1 count2 w R PR := by
  have e : fnT Tryz.prog ⟨FF, MAY, PR⟩ pl88 Tryz.f88 [Slc.v x1, .int .i64 count2] w [(.one .slc)] (fun s w => R s w) = S88 x1 count2 w R PR := by kernel_rfl
  exact (fn_callsP okF okM Tryz.func88 (by kernel_rfl) (by kernel_rfl) (e.mpr h)).mono fun _ _ he => he.elim (fun ⟨s, he, hR⟩ => .inl ⟨s, he, hR⟩) .inr

def S59L1 (R : Slc → Slc → World → Prop) (PR : Value → World → Prop) (I17 : (Slc × Int) → World → Prop) (s15 : Slc × Int) (vw16 : World) : Prop :=
  Br (decide (s15.2 < 4)) (0 ≤ s15.2 ∧ s15.2 < (4 : Nat) ∧ ∃ x18 : Int × Int, (#[.int .i64 144, .int .i64 8, .int .i64 112, .int .i64 9, .int .i64 24, .int .i64 7, .int .i64 8, .int .i64 8] : Array Value).extract ((s15.2).toNat * 2) ((s15.2).toNat * 2 + 2) = #[.int .i64 (x18.1), .int .i64 (x18.2)] ∧ Nw vw16 (.cells #[.int .i64 0, .int .i64 0] 131) fun vw19 =>
    St vw19 (⟨vw16.heap.size, 0, none⟩ : Addr) (.int .i64 (x18.1)) fun vw20 =>
    St vw20 ((⟨vw16.heap.size, 0, none⟩ : Addr).add 1) (.int .i64 (x18.2)) fun vw21 =>
    Ld vw21 ((⟨vw16.heap.size, 0, none⟩ : Addr).add 1) (Value.int .i64) fun (x22 : Int) =>
    Nw vw21 (.cells #[.int .i64 x22] 3) fun vw23 =>
    Ld vw23 (⟨vw16.heap.size, 0, none⟩ : Addr) (Value.int .i64) fun (x24 : Int) =>
    C88 (⟨some ⟨vw21.heap.size, 0, none⟩, 1, 1⟩ : Slc) x24 vw23 (fun r25 vw26 =>
      Rn Tryz.prog (Builtin.append_ #[76, 76] 76 #[Slc.v s15.1, Slc.v r25]) vw26 Slc.v fun (x27 : Slc) vw28 =>
      I17 (x27, IntKind.i64.wrap (s15.2 + 1)) vw28) PR) (Nw vw16 (.cells #[.int .i64 5] 3) fun vw29 =>
    C88 (⟨some ⟨vw16.heap.size, 0, none⟩, 1, 1⟩ : Slc) 32 vw29 (fun r30 vw31 =>
      R s15.1 r30 vw31) PR)
/-- foliant/inflate.Fixed -/
def S59 (w : World) (R : Slc → Slc → World → Prop) (PR : Value → World → Prop) : Prop :=
  Lp (σ := Slc × Int) (S59L1 R PR) ((⟨none, 0, 0⟩ : Slc), 0) w
def pl59 : Plan := (.seq (.reg .seq) (.seq (.seq (.reg .seq) (.block (.loop [(0, (.one .slc)), (9, (.one (.int .i64)))] [8] (.seq (.reg .seq) (.seq (.cond .leaf .leaf) (.seq (.block (.seq (.reg .seq) (.reg .seq))) (.reg .seq))))))) (.seq (.reg .seq) .leaf)))
set_option maxRecDepth 100000 in
theorem T59 (w : World) (R : Slc → Slc → World → Prop) (PR : Value → World → Prop) (h : S59 w R PR) : C59 w R PR := by
  have e : fnT Tryz.prog ⟨FF, MAY, PR⟩ pl59 Tryz.f59 [] w [(.one .slc), (.one .slc)] (fun s w => R s.1 s.2 w) = S59 w R PR := by kernel_rfl
  exact (fn_callsP okF okM Tryz.func59 (by kernel_rfl) (by kernel_rfl) (e.mpr h)).mono fun _ _ he => he.elim (fun ⟨s, he, hR⟩ => .inl ⟨s.1, s.2, he, hR⟩) .inr

def S102L1 (f1 : Option Addr) (r12 : Int) (r29 : Int) (R : World → Prop) (I37 : Int → World → Prop) (s35 : Int) (vw36 : World) : Prop :=
  Br (decide (s35 < r12)) (∃ vS38 : World → Prop, vS38 vw36.drew ∧ Nn f1 fun a39 =>
    LdS vS38 (a39.add 1) Slc.v fun (x40 : Slc) =>
    Nn f1 fun a41 =>
    LdS vS38 (a41.add 1) Slc.v fun (x42 : Slc) =>
    Nn f1 fun a43 =>
    LdS vS38 (a43.add 1) Slc.v fun (x44 : Slc) =>
    0 ≤ (IntKind.i64.wrap (((x44.len : Nat) : Int) - r29)) ∧ (IntKind.i64.wrap (((x44.len : Nat) : Int) - r29)) < (x42.len : Nat) ∧ Nn x42.p fun a45 =>
    LdS vS38 (a45.add ((IntKind.i64.wrap (((x44.len : Nat) : Int) - r29)).toNat * 1)) (Value.int .u8) fun (x46 : Int) =>
    Nw vw36.drew (.cells #[.int .u8 x46] 5) fun vw47 =>
    vS38 vw47 ∧ Rn Tryz.prog (Builtin.append_ #[29, 29] 29 #[Slc.v x40, Slc.v ((⟨some ⟨vw36.drew.heap.size, 0, none⟩, 1, 1⟩ : Slc))]) vw47 Slc.v fun (x48 : Slc) vw49 =>
    Nn f1 fun a50 =>
    St vw49 (a50.add 1) (Slc.v x48) fun vw51 =>
    I37 (IntKind.i64.wrap (s35 + 1)) vw51) (R vw36)
/-- (*foliant/inflate.flate).copied -/
def S102 (f1 : Option Addr) (sign2 : Int) (distances3 : Option Addr) (w : World) (R : World → Prop) (PR : Value → World → Prop) : Prop :=
  C27 (decide (sign2 ≤ 285)) 13 w (fun vw4 =>
    C118 (IntKind.i64.wrap (sign2 - 257)) vw4 fun r5 vw6 =>
      C42 f1 r5.2 vw6 (fun r7 vw8 =>
        C117 sign2 r7 vw8 fun r9 r10 vw11 =>
          C71 r9 r10 vw11 (fun r12 vw13 =>
            Nn f1 fun a14 =>
            Ld vw13 a14 Value.pointer fun (x15 : Option Addr) =>
            C101 distances3 x15 vw13 fun r16 r17 vw18 =>
              C71 r16 r17 vw18 (fun r19 vw20 =>
                C27 (decide (r19 ≤ 29)) 13 vw20 (fun vw21 =>
                  C120 r19 vw21 fun r22 vw23 =>
                    C42 f1 r22.2 vw23 (fun r24 vw25 =>
                      C119 r19 r24 vw25 fun r26 r27 vw28 =>
                        C71 r26 r27 vw28 (fun r29 vw30 =>
                          Nn f1 fun a31 =>
                          Ld vw30 (a31.add 1) Slc.v fun (x32 : Slc) =>
                          C27 (decide (r29 ≤ ((x32.len : Nat) : Int))) 14 vw30 (fun vw33 =>
                            C74 f1 r12 vw33 (fun vw34 =>
                              Lp (σ := Int) (S102L1 f1 r12 r29 R) 0 vw34) PR) PR) PR) PR) PR) PR) PR) PR) PR
def pl102 : Plan := (.seq (.reg .seq) (.seq (.reg .seq) (.seq (.reg .seq) (.seq (.reg .seq) (.seq (.reg .seq) (.seq (.reg .seq) (.seq (.reg .seq) (.seq (.reg .seq) (.block (.loop [(57, (.one (.int .i64)))] [0, 8, 56] (.seq (.reg .seq) (.seq (.cond .leaf .leaf) (.seq (.block (.reg (.held [19] (.take 0 (.take 1 (.take 2 (.take 3 (.take 4 (.take 5 (.take 6 (.take 7 (.take 8 (.take 9 (.take 10 (.take 11 (.take 12 (.take 13 (.take 14 (.take 15 (.take 16 (.take 17 (.eff 18 none (.eff 19 (some [22]) (.take 20 (.take 21 (.eff 22 (some []) .done)))))))))))))))))))))))))) (.reg .seq))))))))))))))
set_option maxRecDepth 100000 in
theorem T102 (f1 : Option Addr) (sign2 : Int) (distances3 : Option Addr) (w : World) (R : World → Prop) (PR : Value → World → Prop) (h : S102 f1 sign2 distances3 w R PR) : C102 f1 sign2 distances3 w R PR := by
  have e : fnT Tryz.prog ⟨FF, MAY, PR⟩ pl102 Tryz.f102 [.pointer f1, .int .i64 sign2, .pointer distances3] w [] (fun _ w => R w) = S102 f1 sign2 distances3 w R PR := by kernel_rfl
  exact (fn_callsP okF okM Tryz.func102 (by kernel_rfl) (by kernel_rfl) (e.mpr h)).mono fun _ _ he => he.elim (fun ⟨_, he, hR⟩ => .inl ⟨he, hR⟩) .inr

def S77L1 (f1 : Option Addr) (signs2 : Option Addr) (distances3 : Option Addr) (R : World → Prop) (PR : Value → World → Prop) (I6 : Unit → World → Prop) (s4 : Unit) (vw5 : World) : Prop :=
  Nn f1 fun a7 =>
  Ld vw5 a7 Value.pointer fun (x8 : Option Addr) =>
  C101 signs2 x8 vw5 fun r9 r10 vw11 =>
    C71 r9 r10 vw11 (fun r12 vw13 =>
      Br (decide (r12 < 256)) (C74 f1 1 vw13 (fun vw14 =>
          Nn f1 fun a15 =>
          Ld vw14 (a15.add 1) Slc.v fun (x16 : Slc) =>
          Nw vw14 (.cells #[.int .u8 (IntKind.u8.wrap r12)] 5) fun vw17 =>
          Rn Tryz.prog (Builtin.append_ #[29, 29] 29 #[Slc.v x16, Slc.v ((⟨some ⟨vw14.heap.size, 0, none⟩, 1, 1⟩ : Slc))]) vw17 Slc.v fun (x18 : Slc) vw19 =>
          Nn f1 fun a20 =>
          St vw19 (a20.add 1) (Slc.v x18) fun vw21 =>
          I6 () vw21) PR) (Br (r12 == 256) (R vw13) (C102 f1 r12 distances3 vw13 (fun vw22 =>
            I6 () vw22) PR))) PR
/-- (*foliant/inflate.flate).coded -/
def S77 (f1 : Option Addr) (signs2 : Option Addr) (distances3 : Option Addr) (w : World) (R : World → Prop) (PR : Value → World → Prop) : Prop :=
  Lp (σ := Unit) (S77L1 f1 signs2 distances3 R PR) () w
def pl77 : Plan := (.block (.loop [] [0, 1, 2] (.block (.seq (.reg .seq) (.block (.seq (.reg .seq) (.cond (.seq (.reg .seq) (.reg .seq)) (.seq (.reg .seq) (.cond .leaf (.reg .seq))))))))))
set_option maxRecDepth 100000 in
theorem T77 (f1 : Option Addr) (signs2 : Option Addr) (distances3 : Option Addr) (w : World) (R : World → Prop) (PR : Value → World → Prop) (h : S77 f1 signs2 distances3 w R PR) : C77 f1 signs2 distances3 w R PR := by
  have e : fnT Tryz.prog ⟨FF, MAY, PR⟩ pl77 Tryz.f77 [.pointer f1, .pointer signs2, .pointer distances3] w [] (fun _ w => R w) = S77 f1 signs2 distances3 w R PR := by kernel_rfl
  exact (fn_callsP okF okM Tryz.func77 (by kernel_rfl) (by kernel_rfl) (e.mpr h)).mono fun _ _ he => he.elim (fun ⟨_, he, hR⟩ => .inl ⟨he, hR⟩) .inr

/-- foliant/inflate.must[*foliant/code.Table] -/
def S78 (x1 : Option Addr) (why2 : Int) (w : World) (R : Option Addr → World → Prop) (PR : Value → World → Prop) : Prop :=
  C27 (why2 == 0) why2 w (fun vw3 =>
    R x1 vw3) PR
def pl78 : Plan := (.seq (.reg .seq) (.seq (.reg .seq) (.seq (.reg .seq) .leaf)))
set_option maxRecDepth 100000 in
theorem T78 (x1 : Option Addr) (why2 : Int) (w : World) (R : Option Addr → World → Prop) (PR : Value → World → Prop) (h : S78 x1 why2 w R PR) : C78 x1 why2 w R PR := by
  have e : fnT Tryz.prog ⟨FF, MAY, PR⟩ pl78 Tryz.f78 [.pointer x1, .int .i64 why2] w [(.one .ptr)] (fun s w => R s w) = S78 x1 why2 w R PR := by kernel_rfl
  exact (fn_callsP okF okM Tryz.func78 (by kernel_rfl) (by kernel_rfl) (e.mpr h)).mono fun _ _ he => he.elim (fun ⟨s, he, hR⟩ => .inl ⟨s, he, hR⟩) .inr

/-- (*foliant/inflate.flate).fixed -/
def S44 (f1 : Option Addr) (w : World) (R : World → Prop) (PR : Value → World → Prop) : Prop :=
  C59 w (fun r2 r3 vw4 =>
    C60 r2 vw4 fun r5 r6 vw7 =>
      C78 r5 r6 vw7 (fun r8 vw9 =>
        C60 r3 vw9 fun r10 r11 vw12 =>
          C78 r10 r11 vw12 (fun r13 vw14 =>
            C77 f1 r8 r13 vw14 (fun vw15 =>
              R vw15) PR) PR) PR) PR
def pl44 : Plan := (.seq (.reg .seq) (.reg .seq))
set_option maxRecDepth 100000 in
theorem T44 (f1 : Option Addr) (w : World) (R : World → Prop) (PR : Value → World → Prop) (h : S44 f1 w R PR) : C44 f1 w R PR := by
  have e : fnT Tryz.prog ⟨FF, MAY, PR⟩ pl44 Tryz.f44 [.pointer f1] w [] (fun _ w => R w) = S44 f1 w R PR := by kernel_rfl
  exact (fn_callsP okF okM Tryz.func44 (by kernel_rfl) (by kernel_rfl) (e.mpr h)).mono fun _ _ he => he.elim (fun ⟨_, he, hR⟩ => .inl ⟨he, hR⟩) .inr

def S79L1 (f1 : Option Addr) (t2 : Option Addr) (n3 : Int) (R : Slc → World → Prop) (PR : Value → World → Prop) (I8 : Slc → World → Prop) (s6 : Slc) (vw7 : World) : Prop :=
  Br (decide (((s6.len : Nat) : Int) < n3)) (Nn f1 fun a9 =>
    Ld vw7 a9 Value.pointer fun (x10 : Option Addr) =>
    C101 t2 x10 vw7 fun r11 r12 vw13 =>
      C71 r11 r12 vw13 (fun r14 vw15 =>
        Ld vw15 (⟨1, 0, none⟩ : Addr) Value.map fun (x16 : Option Nat) =>
        ∃ x17 : Int × Int, ∃ vok18 : Bool, ∃ vw19 : World, RunV Tryz.prog (Instr.lookup 159 (.map x16) (.int .i64 r14) true) vw15 (.tuple #[.agg #[.int .i64 (x17.1), .int .i64 (x17.2)], .bool vok18]) vw19 ∧ Nw vw19 (.cells #[.int .i64 0, .int .i64 0] 157) fun vw20 =>
        St vw20 (⟨vw19.heap.size, 0, none⟩ : Addr) (.int .i64 (x17.1)) fun vw21 =>
        St vw21 ((⟨vw19.heap.size, 0, none⟩ : Addr).add 1) (.int .i64 (x17.2)) fun vw22 =>
        Br (!vok18) (Nw vw22 (.cells #[.int .i64 r14] 3) fun vw26 =>
          Rn Tryz.prog (Builtin.append_ #[76, 76] 76 #[Slc.v s6, Slc.v ((⟨some ⟨vw22.heap.size, 0, none⟩, 1, 1⟩ : Slc))]) vw26 Slc.v fun (x27 : Slc) vw28 =>
          I8 x27 vw28) (Br (r14 == 16) (C27 (decide (((s6.len : Nat) : Int) > 0)) 3 vw22 (fun vw32 =>
              0 ≤ (IntKind.i64.wrap (((s6.len : Nat) : Int) - 1)) ∧ (IntKind.i64.wrap (((s6.len : Nat) : Int) - 1)) < (s6.len : Nat) ∧ Nn s6.p fun a33 =>
              Ld vw32 (a33.add ((IntKind.i64.wrap (((s6.len : Nat) : Int) - 1)).toNat * 1)) (Value.int .i64) fun (x34 : Int) =>
              ∃ vS35 : World → Prop, vS35 vw32.drew ∧ LdS vS35 (⟨vw19.heap.size, 0, none⟩ : Addr) (Value.int .i64) fun (x36 : Int) =>
              LdS vS35 ((⟨vw19.heap.size, 0, none⟩ : Addr).add 1) (Value.int .i64) fun (x37 : Int) =>
              C42 f1 x37 vw32.drew (fun r38 vw39 =>
                vS35 vw39 ∧ C27 (decide ((IntKind.i64.wrap (((s6.len : Nat) : Int) + (IntKind.i64.wrap (x36 + r38)))) ≤ n3)) 3 vw39 (fun vw40 =>
                  Nw vw40 (.cells #[.int .i64 x34] 3) fun vw41 =>
                  C88 (⟨some ⟨vw40.heap.size, 0, none⟩, 1, 1⟩ : Slc) (IntKind.i64.wrap (x36 + r38)) vw41 (fun r42 vw43 =>
                    Rn Tryz.prog (Builtin.append_ #[76, 76] 76 #[Slc.v s6, Slc.v r42]) vw43 Slc.v fun (x44 : Slc) vw45 =>
                    I8 x44 vw45) PR) PR) PR) PR) (∃ vS46 : World → Prop, vS46 vw22.drew ∧ LdS vS46 (⟨vw19.heap.size, 0, none⟩ : Addr) (Value.int .i64) fun (x47 : Int) =>
            LdS vS46 ((⟨vw19.heap.size, 0, none⟩ : Addr).add 1) (Value.int .i64) fun (x48 : Int) =>
            C42 f1 x48 vw22.drew (fun r49 vw50 =>
              vS46 vw50 ∧ C27 (decide ((IntKind.i64.wrap (((s6.len : Nat) : Int) + (IntKind.i64.wrap (x47 + r49)))) ≤ n3)) 3 vw50 (fun vw51 =>
                Nw vw51 (.cells #[.int .i64 0] 3) fun vw52 =>
                C88 (⟨some ⟨vw51.heap.size, 0, none⟩, 1, 1⟩ : Slc) (IntKind.i64.wrap (x47 + r49)) vw52 (fun r53 vw54 =>
                  Rn Tryz.prog (Builtin.append_ #[76, 76] 76 #[Slc.v s6, Slc.v r53]) vw54 Slc.v fun (x55 : Slc) vw56 =>
                  I8 x55 vw56) PR) PR) PR))) PR) (R s6 vw7)
/-- (*foliant/inflate.flate).lengths -/
def S79 (f1 : Option Addr) (t2 : Option Addr) (n3 : Int) (w : World) (R : Slc → World → Prop) (PR : Value → World → Prop) : Prop :=
  Rn Tryz.prog (Instr.makeSlice 76 (.int .i64 0) (.int .i64 n3)) w Slc.v fun (x4 : Slc) vw5 =>
  Lp (σ := Slc) (S79L1 f1 t2 n3 R PR) x4 vw5
def pl79 : Plan := (.seq (.reg .seq) (.seq (.reg .seq) (.seq (.block (.loop [(7, (.one .slc))] [0, 1, 2] (.seq (.seq (.reg .seq) (.cond .leaf .leaf)) (.block (.seq (.reg .seq) (.seq (.reg .seq) (.seq (.seq (.reg .seq) (.cond (.seq (.reg .seq) .leaf) .leaf)) (.seq (.reg .seq) (.seq (.seq (.reg .seq) (.cond (.seq (.reg .seq) (.reg .seq)) .leaf)) (.seq (.reg (.held [] (.take 0 (.take 1 (.take 2 (.take 3 (.take 4 (.eff 5 none (.take 6 (.take 7 .done)))))))))) (.seq (.reg .seq) (.reg .seq)))))))))))) (.seq (.reg .seq) .leaf))))
set_option maxRecDepth 100000 in
theorem T79 (f1 : Option Addr) (t2 : Option Addr) (n3 : Int) (w : World) (R : Slc → World → Prop) (PR : Value → World → Prop) (h : S79 f1 t2 n3 w R PR) : C79 f1 t2 n3 w R PR := by
  have e : fnT Tryz.prog ⟨FF, MAY, PR⟩ pl79 Tryz.f79 [.pointer f1, .pointer t2, .int .i64 n3] w [(.one .slc)] (fun s w => R s w) = S79 f1 t2 n3 w R PR := by kernel_rfl
  exact (fn_callsP okF okM Tryz.func79 (by kernel_rfl) (by kernel_rfl) (e.mpr h)).mono fun _ _ he => he.elim (fun ⟨s, he, hR⟩ => .inl ⟨s, he, hR⟩) .inr

def S45L1 (f1 : Option Addr) (r2 : Int) (r5 : Int) (vw7 : World) (r20 : Int) (x22 : Int) (R : World → Prop) (PR : Value → World → Prop) (I25 : Int → World → Prop) (s23 : Int) (vw24 : World) : Prop :=
  Br (decide (s23 < x22)) (0 ≤ s23 ∧ s23 < (((⟨some (⟨0, 0, none⟩ : Addr), 19, 19⟩ : Slc).cut 1 0 ((IntKind.i64.wrap (r20 + 4)).toNat) 19).len : Nat) ∧ Nn ((⟨some (⟨0, 0, none⟩ : Addr), 19, 19⟩ : Slc).cut 1 0 ((IntKind.i64.wrap (r20 + 4)).toNat) 19).p fun a26 =>
    Ld vw24 (a26.add ((s23).toNat * 1)) (Value.int .i64) fun (x27 : Int) =>
    C42 f1 3 vw24 (fun r28 vw29 =>
      0 ≤ x27 ∧ x27 < (19 : Nat) ∧ St vw29 ((⟨vw7.heap.size, 0, none⟩ : Addr).add ((x27).toNat * 1)) (.int .i64 r28) fun vw30 =>
      I25 (IntKind.i64.wrap (s23 + 1)) vw30) PR) (C60 ((⟨some (⟨vw7.heap.size, 0, none⟩ : Addr), 19, 19⟩ : Slc).cut 1 0 19 19) vw24 fun r31 r32 vw33 =>
      C78 r31 r32 vw33 (fun r34 vw35 =>
        C79 f1 r34 (IntKind.i64.wrap ((IntKind.i64.wrap (r2 + 257)) + (IntKind.i64.wrap (r5 + 1)))) vw35 (fun r36 vw37 =>
          0 ≤ (256 : Int) ∧ (256 : Int) < (r36.len : Nat) ∧ Nn r36.p fun a38 =>
          Ld vw37 (a38.add (((256 : Int)).toNat * 1)) (Value.int .i64) fun (x39 : Int) =>
          C27 (decide (x39 > 0)) 13 vw37 (fun vw40 =>
            0 ≤ (IntKind.i64.wrap (r2 + 257)) ∧ (IntKind.i64.wrap (r2 + 257)) ≤ ((r36.cap : Nat) : Int) ∧ 0 ≤ (IntKind.i64.wrap (r2 + 257)) ∧ (IntKind.i64.wrap (r2 + 257)) ≤ ((r36.len : Nat) : Int) ∧ C60 (r36.cut 1 0 ((IntKind.i64.wrap (r2 + 257)).toNat) r36.cap) vw40.drew fun r41 r42 vw43 =>
              C78 r41 r42 vw43 (fun r44 vw45 =>
                C60 (r36.cut 1 ((IntKind.i64.wrap (r2 + 257)).toNat) r36.len r36.cap) vw45 fun r46 r47 vw48 =>
                  C78 r46 r47 vw48 (fun r49 vw50 =>
                    C77 f1 r44 r49 vw50 (fun vw51 =>
                      R vw51) PR) PR) PR) PR) PR) PR)
/-- (*foliant/inflate.flate).dynamic -/
def S45 (f1 : Option Addr) (w : World) (R : World → Prop) (PR : Value → World → Prop) : Prop :=
  C42 f1 5 w (fun r2 vw3 =>
    C27 (decide ((IntKind.i64.wrap (r2 + 257)) ≤ 286)) 3 vw3 (fun vw4 =>
      C42 f1 5 vw4 (fun r5 vw6 =>
        C27 (decide ((IntKind.i64.wrap (r5 + 1)) ≤ 30)) 3 vw6 (fun vw7 =>
          Nw vw7 (.cells #[.int .i64 0, .int .i64 0, .int .i64 0, .int .i64 0, .int .i64 0, .int .i64 0, .int .i64 0, .int .i64 0, .int .i64 0, .int .i64 0, .int .i64 0, .int .i64 0, .int .i64 0, .int .i64 0, .int .i64 0, .int .i64 0, .int .i64 0, .int .i64 0, .int .i64 0] 108) fun vw8 =>
          C42 f1 4 vw8 (fun r20 vw21 =>
            0 ≤ (IntKind.i64.wrap (r20 + 4)) ∧ (IntKind.i64.wrap (r20 + 4)) ≤ ((19 : Nat) : Int) ∧ Lt (((((⟨some (⟨0, 0, none⟩ : Addr), 19, 19⟩ : Slc).cut 1 0 ((IntKind.i64.wrap (r20 + 4)).toNat) 19).len : Nat) : Int)) fun (x22 : Int) =>
            Lp (σ := Int) (S45L1 f1 r2 r5 vw7 r20 x22 R PR) 0 vw21) PR) PR) PR) PR) PR
def pl45 : Plan := (.seq (.reg .seq) (.seq (.reg .seq) (.seq (.reg .seq) (.seq (.reg .seq) (.seq (.reg .seq) (.seq (.seq (.reg .seq) (.block (.loop [(25, (.one (.int .i64)))] [0, 2, 3, 4, 23, 24] (.seq (.reg .seq) (.seq (.cond .leaf .leaf) (.seq (.block (.seq (.reg .seq) (.reg .seq))) (.reg .seq))))))) (.seq (.reg .seq) (.seq (.reg .seq) (.reg (.held [4] (.take 0 (.take 1 (.take 2 (.take 3 (.take 8 (.take 9 (.take 10 (.eff 4 (some [7]) (.take 5 (.take 6 (.eff 7 (some [11]) (.eff 11 (some [14]) (.take 12 (.take 13 (.eff 14 (some [15]) (.eff 15 (some []) .done))))))))))))))))))))))))))
set_option maxRecDepth 100000 in
theorem T45 (f1 : Option Addr) (w : World) (R : World → Prop) (PR : Value → World → Prop) (h : S45 f1 w R PR) : C45 f1 w R PR := by
  have e : fnT Tryz.prog ⟨FF, MAY, PR⟩ pl45 Tryz.f45 [.pointer f1] w [] (fun _ w => R w) = S45 f1 w R PR := by kernel_rfl
  exact (fn_callsP okF okM Tryz.func45 (by kernel_rfl) (by kernel_rfl) (e.mpr h)).mono fun _ _ he => he.elim (fun ⟨_, he, hR⟩ => .inl ⟨he, hR⟩) .inr

/-- (*foliant/inflate.flate).block -/
def S29 (f1 : Option Addr) (w : World) (R : Bool → World → Prop) (PR : Value → World → Prop) : Prop :=
  C42 f1 1 w (fun r2 vw3 =>
    C42 f1 2 vw3 (fun r4 vw5 =>
      Br (r4 == 0) (C43 f1 vw5 (fun vw6 =>
          R (r2 == 1) vw6) PR) (Br (r4 == 1) (C44 f1 vw5 (fun vw7 =>
            R (r2 == 1) vw7) PR) (Br (r4 == 2) (C45 f1 vw5 (fun vw8 =>
              R (r2 == 1) vw8) PR) (C27 false 3 vw5 (fun vw9 =>
              R (r2 == 1) vw9) PR)))) PR) PR
def pl29 : Plan := (.seq (.reg .seq) (.seq (.reg .seq) (.seq (.seq (.reg .seq) (.block (.seq (.reg .seq) (.cond (.reg .seq) (.seq (.reg .seq) (.cond (.reg .seq) (.seq (.reg .seq) (.cond (.reg .seq) (.reg .seq))))))))) (.seq (.reg .seq) .leaf))))
set_option maxRecDepth 100000 in
theorem T29 (f1 : Option Addr) (w : World) (R : Bool → World → Prop) (PR : Value → World → Prop) (h : S29 f1 w R PR) : C29 f1 w R PR := by
  have e : fnT Tryz.prog ⟨FF, MAY, PR⟩ pl29 Tryz.f29 [.pointer f1] w [(.one .bool)] (fun s w => R s w) = S29 f1 w R PR := by kernel_rfl
  exact (fn_callsP okF okM Tryz.func29 (by kernel_rfl) (by kernel_rfl) (e.mpr h)).mono fun _ _ he => he.elim (fun ⟨s, he, hR⟩ => .inl ⟨s, he, hR⟩) .inr

def S14P (w : World) (vw3 : World) (vw4 : World) (R : ByteArray → Int → Int → World → Prop) (x7 : Value) (vw6 : World) : Prop :=
  CD26 (⟨w.heap.size, 0, none⟩ : Addr) (⟨vw3.heap.size, 0, none⟩ : Addr) (⟨vw4.heap.size, 0, none⟩ : Addr) (some x7) vw6 fun vw8 =>
    Ld vw8 (⟨w.heap.size, 0, none⟩ : Addr) Value.string fun (x9 : ByteArray) =>
    Ld vw8 (⟨vw3.heap.size, 0, none⟩ : Addr) (Value.int .i64) fun (x10 : Int) =>
    Ld vw8 (⟨vw4.heap.size, 0, none⟩ : Addr) (Value.int .i64) fun (x11 : Int) =>
    R x9 x10 x11 vw8
def S14L1 (w : World) (vw3 : World) (vw4 : World) (vw14 : World) (R : ByteArray → Int → Int → World → Prop) (I23 : Unit → World → Prop) (s21 : Unit) (vw22 : World) : Prop :=
  C29 (some (⟨vw14.heap.size, 0, none⟩ : Addr)) vw22 (fun r24 vw25 =>
    Br (!r24) (I23 () vw25) (∃ vS26 : World → Prop, vS26 vw25.drew ∧ Nn (some (⟨vw14.heap.size, 0, none⟩ : Addr)) fun a27 =>
      LdS vS26 (a27.add 1) Slc.v fun (x28 : Slc) =>
      Nn (some (⟨vw14.heap.size, 0, none⟩ : Addr)) fun a29 =>
      LdS vS26 a29 Value.pointer fun (x30 : Option Addr) =>
      (Rn Tryz.prog (convert 29 9 (Slc.v x28)) vw25.drew Value.string fun (x31 : ByteArray) vw32 =>
        vS26 vw32 ∧ C30 x30 vw32 fun r33 vw34 =>
          vS26 vw34 ∧ St vw34 (⟨w.heap.size, 0, none⟩ : Addr) (.string x31) fun vw35 =>
          St vw35 (⟨vw3.heap.size, 0, none⟩ : Addr) (.int .i64 r33) fun vw36 =>
          St vw36 (⟨vw4.heap.size, 0, none⟩ : Addr) (.int .i64 0) fun vw37 =>
          CD26 (⟨w.heap.size, 0, none⟩ : Addr) (⟨vw3.heap.size, 0, none⟩ : Addr) (⟨vw4.heap.size, 0, none⟩ : Addr) none vw37 fun vw38 =>
            Ld vw38 (⟨w.heap.size, 0, none⟩ : Addr) Value.string fun (x39 : ByteArray) =>
            Ld vw38 (⟨vw3.heap.size, 0, none⟩ : Addr) (Value.int .i64) fun (x40 : Int) =>
            Ld vw38 (⟨vw4.heap.size, 0, none⟩ : Addr) (Value.int .i64) fun (x41 : Int) =>
            R x39 x40 x41 vw38) ∧
      (C30 x30 vw25.drew fun r42 vw43 =>
          vS26 vw43 ∧ Rn Tryz.prog (convert 29 9 (Slc.v x28)) vw43 Value.string fun (x44 : ByteArray) vw45 =>
          vS26 vw45 ∧ St vw45 (⟨w.heap.size, 0, none⟩ : Addr) (.string x44) fun vw46 =>
          St vw46 (⟨vw3.heap.size, 0, none⟩ : Addr) (.int .i64 r42) fun vw47 =>
          St vw47 (⟨vw4.heap.size, 0, none⟩ : Addr) (.int .i64 0) fun vw48 =>
          CD26 (⟨w.heap.size, 0, none⟩ : Addr) (⟨vw3.heap.size, 0, none⟩ : Addr) (⟨vw4.heap.size, 0, none⟩ : Addr) none vw48 fun vw49 =>
            Ld vw49 (⟨w.heap.size, 0, none⟩ : Addr) Value.string fun (x50 : ByteArray) =>
            Ld vw49 (⟨vw3.heap.size, 0, none⟩ : Addr) (Value.int .i64) fun (x51 : Int) =>
            Ld vw49 (⟨vw4.heap.size, 0, none⟩ : Addr) (Value.int .i64) fun (x52 : Int) =>
            R x50 x51 x52 vw49))) (S14P w vw3 vw4 R)
/-- foliant/inflate.All -/
def S14 (s1 : ByteArray) (most2 : Int) (w : World) (R : ByteArray → Int → Int → World → Prop) : Prop :=
  Nw w (.cells #[.string ((⟨#[]⟩ : ByteArray))] 9) fun vw3 =>
  Nw vw3 (.cells #[.int .i64 0] 3) fun vw4 =>
  Nw vw4 (.cells #[.int .i64 0] 23) fun vw5 =>
  C27 (decide (most2 ≥ 0)) 1 vw5 (fun vw12 =>
    C28 s1 vw12 fun r13 vw14 =>
      Nw vw14 (.cells #[.pointer r13, Slc.v ((⟨none, 0, 0⟩ : Slc)), .int .i64 (if 1048576 < most2 then 1048576 else most2)] 57) fun vw15 =>
      Lp (σ := Unit) (S14L1 w vw3 vw4 vw14 R) () vw15) (S14P w vw3 vw4 R)
def pl14 : DPlan := (.pre (.reg .seq) (.here [4, 5, 6] (.seq (.reg .seq) (.seq (.reg .seq) (.seq (.block (.loop [] [4, 5, 6, 7] (.seq (.seq (.reg .seq) (.cond .leaf .leaf)) (.block .leaf)))) (.seq (.reg (.held [10] (.take 0 (.take 1 (.take 2 (.take 3 (.take 5 (.take 6 (.take 7 (.take 8 (.effs 4 none (.eff 9 none (.eff 10 (some [11]) (.eff 11 (some [12]) (.eff 12 (some []) .done)))) (.eff 9 none (.eff 4 none (.eff 10 (some [11]) (.eff 11 (some [12]) (.eff 12 (some []) .done)))))))))))))))) .leaf))))))
set_option maxRecDepth 100000 in
theorem T14 (s1 : ByteArray) (most2 : Int) (w : World) (R : ByteArray → Int → Int → World → Prop) (h : S14 s1 most2 w R) : C14 s1 most2 w R := by
  have e : fnTD Tryz.prog FF MAY (fun _ _ => False) pl14 Tryz.f14 [.string s1, .int .i64 most2] w [(.one .str), (.one (.int .i64)), (.one (.int .i64))] (fun s w => R s.1 s.2.1 s.2.2 w) = S14 s1 most2 w R := by kernel_rfl
  exact (fnD_calls okF okM Tryz.func14 (by kernel_rfl) (by kernel_rfl) (e.mpr h)).mono fun _ _ ⟨s, he, hR⟩ => ⟨s.1, s.2.1, s.2.2, he, hR⟩

end Go.Proofs.YtjkoafjnmkchdaaGreatDoor

/- Inflate: the program's bits, room, stored, copied, coded. Conditions: sizes. -/
namespace Go.Proofs.YtjkoafjnmkchdaaGreatDoor
namespace Inf
open Sh Bit
set_option linter.unusedVariables false
set_option linter.unusedSimpArgs false
set_option maxRecDepth 4000
set_option maxHeartbeats 2000000
/-- The panic of this package. -/
def gup (e : Int) : Value := .iface 51 (.agg #[.int .i64 e])
/-- The cells of a decompression. -/
def fcells (rb : Nat) (o : Slc) (most : Nat) : Array Value := #[.pointer (at0 rb), Slc.v o, .int .i64 (most : Int)]
structure FS (w : World) (fb rb : Nat) (o : Slc) (s : ByteArray) (out : List UInt8) (p most : Nat) : Prop where
  blk : Blk w fb (fcells rb o most) 57
  rd : RB w rb s p
  row : BRow w o out
  ne : fb ≠ rb
  nf : ¬ o.own fb
  nr : ¬ o.own rb
  len : out.length ≤ most
  big : most ≤ 1048576
/-- What may change. -/
def XF (fb rb : Nat) (o : Slc) : Nat → Prop := fun j => j = fb ∨ j = rb ∨ o.own j
structure Mv (fb rb : Nat) (w w1 : World) (o o1 : Slc) : Prop where
  ext : Ext (XF fb rb o) w w1
  own : ∀ j, o1.own j → o.own j ∨ w.heap.size ≤ j
section
variable {w w1 w2 : World} {fb rb : Nat} {o o1 o2 : Slc} {s : ByteArray} {out : List UInt8} {p most : Nat}
theorem Mv.refl : Mv fb rb w w o o := ⟨Ext.refl _ _, fun j h => .inl h⟩
theorem Mv.of (h : Ext (XF fb rb o) w w1) : Mv fb rb w w1 o o := ⟨h, fun j h => .inl h⟩
theorem Mv.rd (h : Ext (· = rb) w w1) : Mv fb rb w w1 o o := .of (h.mono fun i _ e => .inr (.inl e))
theorem Mv.no (h : Ext (fun _ => False) w w1) : Mv fb rb w w1 o o := .of (h.mono fun i _ e => e.elim)
theorem Mv.tr (h : Mv fb rb w w1 o o1) (k : Mv fb rb w1 w2 o1 o2) : Mv fb rb w w2 o o2 := by
  refine ⟨h.ext.trans k.ext (fun _ h => h) fun i hi e => ?_, fun j hj => ?_⟩
  · rcases e with e | e | e
    · exact .inl e
    · exact .inr (.inl e)
    · rcases h.own i e with e | e
      · exact .inr (.inr e)
      · omega
  · have := h.ext.size
    rcases k.own j hj with e | e
    · exact h.own j e
    · exact .inr (by omega)
theorem FS.keep (h : FS w fb rb o s out p most) (he : Ext (fun _ => False) w w1) : FS w1 fb rb o s out p most :=
  ⟨he.blk h.blk (fun h => h), h.rd.keep he (fun h => h), h.row.keep he (fun _ _ h => h), h.ne, h.nf, h.nr, h.len, h.big⟩
theorem FS.read {q : Nat} (h : FS w fb rb o s out p most) (he : Ext (· = rb) w w1) (hr : RB w1 rb s q) : FS w1 fb rb o s out q most :=
  ⟨he.blk h.blk h.ne, hr, h.row.keep he (fun j hj e => h.nr (by have e : j = rb := e; rw [← e]; exact hj)), h.ne, h.nf, h.nr, h.len, h.big⟩
/-- Where a table may lie. -/
structure Sep (lo hi fb rb : Nat) (o : Slc) (w : World) : Prop where
  f : fb < lo ∨ hi ≤ fb
  r : rb < lo ∨ hi ≤ rb
  o : ∀ j, o.own j → j < lo ∨ hi ≤ j
  h : hi ≤ w.heap.size
theorem Sep.mv {lo hi : Nat} (h : Sep lo hi fb rb o w) (m : Mv fb rb w w1 o o1) : Sep lo hi fb rb o1 w1 := by
  have := m.ext.size
  have := h.h
  refine ⟨h.f, h.r, fun j hj => ?_, by omega⟩
  rcases m.own j hj with e | e
  · exact h.o j e
  · omega
theorem TB.mv {lo hi tb : Nat} {lens : List Int} (h : TB w lo hi tb lens) (k : Sep lo hi fb rb o w) (m : Ext (XF fb rb o) w w1) : TB w1 lo hi tb lens :=
  h.keep m fun j h1 h2 e => by
    have := k.f
    have := k.r
    rcases e with e | e | e
    · omega
    · omega
    · have := k.o j e; omega
attribute [local irreducible] Ld St Nw Nn Lt LdS
theorem c_need (b : Bool) (e : Int) (w : World) : C27 b e w (fun w1 => b = true ∧ w1 = w) fun v w1 => v = gup e ∧ b = false ∧ w1 = w := by
  refine T27 _ _ _ _ _ ?_
  unfold S27
  cases b
  · exact Br.t rfl ⟨rfl, rfl, rfl⟩
  · exact Br.f rfl ⟨rfl, rfl⟩
theorem c_mustI (x e : Int) (w : World) : C71 x e w (fun r w1 => e = 0 ∧ r = x ∧ w1 = w) fun v w1 => v = gup e ∧ e ≠ 0 ∧ w1 = w := by
  refine T71 _ _ _ _ _ ?_
  unfold S71
  exact (c_need (e == 0) e w).mono (fun w1 h => ⟨by simpa using h.1, rfl, h.2⟩) fun v w1 h => ⟨h.1, by simpa using h.2.1, h.2.2⟩
theorem c_mustS (x : ByteArray) (e : Int) (w : World) : C75 x e w (fun r w1 => e = 0 ∧ r = x ∧ w1 = w) fun v w1 => v = gup e ∧ e ≠ 0 ∧ w1 = w := by
  refine T75 _ _ _ _ _ ?_
  unfold S75
  exact (c_need (e == 0) e w).mono (fun w1 h => ⟨by simpa using h.1, rfl, h.2⟩) fun v w1 h => ⟨h.1, by simpa using h.2.1, h.2.2⟩
theorem c_mustT (x : Option Addr) (e : Int) (w : World) : C78 x e w (fun r w1 => e = 0 ∧ r = x ∧ w1 = w) fun v w1 => v = gup e ∧ e ≠ 0 ∧ w1 = w := by
  refine T78 _ _ _ _ _ ?_
  unfold S78
  exact (c_need (e == 0) e w).mono (fun w1 h => ⟨by simpa using h.1, rfl, h.2⟩) fun v w1 h => ⟨h.1, by simpa using h.2.1, h.2.2⟩
theorem c_bits {n : Nat} (hn : n ≤ 24) (h : FS w fb rb o s out p most) (hs : s.size ≤ 1000000) : C42 (some (⟨fb, 0, none⟩ : Addr)) (n : Int) w (fun v w1 => ∃ q, num s p n = .ok (v, q) ∧ FS w1 fb rb o s out q most ∧ Ext (· = rb) w w1) fun v w1 => num s p n = .error 4 ∧ v = gup 4 ∧ Ext (· = rb) w w1 := by
  refine T42 _ _ _ _ _ ?_
  unfold S42
  refine Nn.of (Ld.of h.blk (x := at0 rb) rfl ((c_lowN h.rd hs hn).mono ?_))
  rintro v e w1 ⟨he, q, hnum, hr⟩
  refine (c_mustI v e w1).mono ?_ ?_
  · rintro r _ ⟨rfl, rfl, rfl⟩
    rcases hnum with ⟨h1, _⟩ | ⟨_, h2⟩
    · exact ⟨q, h1, h.read he (hr rfl), he⟩
    · cases h2
  · rintro v _ ⟨rfl, h2, rfl⟩
    rcases hnum with ⟨_, h3⟩ | ⟨h1, rfl⟩
    · exact absurd h3 h2
    · exact ⟨h1, rfl, he⟩
theorem c_room {n : Nat} (hn : n ≤ 2000000) (h : FS w fb rb o s out p most) : C74 (some (⟨fb, 0, none⟩ : Addr)) (n : Int) w (fun w1 => out.length + n ≤ most ∧ w1 = w.drew) fun v w1 => v = gup 5 ∧ ¬ out.length + n ≤ most ∧ w1 = w.drew := by
  refine T74 _ _ _ _ _ ?_
  unfold S74
  have hb := h.blk.drew
  have hl := h.row.len
  have h1 := h.len
  have h2 := h.big
  refine Nn.of ?_
  simp only [add_lit, Nat.zero_add]
  refine Ld.of hb (o := 1) (x := o) rfl (Nn.of ?_)
  simp only [add_lit, Nat.zero_add]
  refine Ld.of hb (o := 2) (x := (most : Int)) rfl ?_
  rw [hl, i64_id (by omega)]
  refine (c_need _ 5 _).mono ?_ ?_
  · rintro w1 ⟨h3, rfl⟩
    have h3 := of_decide_eq_true h3
    exact ⟨by omega, rfl⟩
  · rintro v w1 ⟨rfl, h3, rfl⟩
    have h3 := of_decide_eq_false h3
    exact ⟨rfl, by omega, rfl⟩
/-- What a step of the decompression answers: R and the panic. -/
def OkR (fb rb : Nat) (w : World) (o : Slc) (s : ByteArray) (most : Nat) (r : Except Int (List UInt8 × Nat)) (w1 : World) : Prop := ∃ o1 out1 q, r = .ok (out1, q) ∧ FS w1 fb rb o1 s out1 q most ∧ Mv fb rb w w1 o o1
def ErR {α : Type} (fb rb : Nat) (w : World) (o : Slc) (r : Except Int α) (v : Value) (w1 : World) : Prop := ∃ e, r = .error e ∧ v = gup e ∧ Ext (XF fb rb o) w w1
theorem Mv.er (h : Mv fb rb w w1 o o1) (k : Ext (XF fb rb o1) w1 w2) : Ext (XF fb rb o) w w2 := (h.tr (.of k)).ext
/-- The output after more bytes. -/
theorem FS.put {out1 : List UInt8} (h : FS w fb rb o s out p most) (hl : out1.length ≤ most) {o1 : Slc} (he : Ext o.own w w1) (hr : BRow w1 o1 out1) (hn : ∀ j, o1.own j → o.own j ∨ w.heap.size ≤ j) {K : World → Prop} (k : ∀ w2, FS w2 fb rb o1 s out1 p most → Mv fb rb w w2 o o1 → K w2) : St w1 ⟨fb, 1, none⟩ (Slc.v o1) K := by
  have hb := he.blk h.blk h.nf
  have hfb := h.blk.lt
  have hrb := h.rd.lt
  refine (Hx.one (F := (· = fb)) hb).st 0 rfl (by show 1 < 3; omega) (.inl rfl) fun w2 H => k w2 ?_ ?_
  · have nf : ¬ o1.own fb := fun e => by
      rcases hn fb e with e | e
      · exact h.nf e
      · omega
    have nr : ¬ o1.own rb := fun e => by
      rcases hn rb e with e | e
      · exact h.nr e
      · omega
    exact ⟨H.get 0 rfl, (h.rd.keep he h.nr).keep H.ext (fun e => h.ne e.symm), hr.keep H.ext (fun j hj e => nf (by have e : j = fb := e; rw [← e]; exact hj)), h.ne, nf, nr, hl, h.big⟩
  · exact ⟨he.trans H.ext (fun i e => .inr (.inr e)) fun i hi e => .inl e, hn⟩
theorem c_stored (h : FS w fb rb o s out p most) (hs : s.size ≤ 1000000) : C43 (some (⟨fb, 0, none⟩ : Addr)) w (OkR fb rb w o s most (stored s p out most)) (ErR fb rb w o (stored s p out most)) := by
  refine T43 _ _ _ _ ?_
  unfold S43 stored
  refine Nn.of (Ld.of h.blk (x := at0 rb) rfl ?_)
  obtain ⟨hp, way, hw, hrd⟩ := h.rd
  refine (c_align hrd hp hs).mono ?_
  rintro w1 ⟨h1, e1⟩
  have H1 := h.read e1 ⟨by omega, 0, .inl rfl, h1⟩
  have m1 : Mv fb rb w w1 o o := .rd e1
  refine (c_bits (n := 16) (by omega) H1 hs).mono ?_ ?_
  rotate_left
  · rintro v w2 ⟨hn, rfl, e2⟩
    rw [hn]
    exact ⟨4, rfl, rfl, m1.er (Mv.rd e2).ext⟩
  rintro n w2 ⟨q, hn, H2, e2⟩
  rw [hn]
  have m2 := m1.tr (.rd e2)
  obtain ⟨n0, n1, rfl, n3⟩ := num_bd hn
  have h65 : (2 : Int) ^ 16 = 65536 := by decide
  dsimp only
  refine (c_bits (n := 16) (by omega) H2 hs).mono ?_ ?_
  rotate_left
  · rintro v w3 ⟨hm, rfl, e3⟩
    rw [hm]
    exact ⟨4, rfl, rfl, m2.er (Mv.rd e3).ext⟩
  rintro m w3 ⟨q3, hm, H3, e3⟩
  rw [hm]
  have m3 := m2.tr (.rd e3)
  obtain ⟨k0, k1, rfl, k3⟩ := num_bd hm
  dsimp only
  rw [i64_id (n := 65535 - n) (by omega)]
  refine (c_need _ 3 _).mono ?_ ?_
  rotate_left
  · rintro v _ ⟨rfl, h4, rfl⟩
    have h4 : m ≠ 65535 - n := by simpa using h4
    rw [if_pos h4]
    exact ⟨3, rfl, rfl, m3.ext⟩
  rintro w3 ⟨h4, rfl⟩
  have h4 : m = 65535 - n := by simpa using h4
  rw [if_neg (fun hh => hh h4)]
  obtain ⟨z, rfl⟩ := Int.eq_ofNat_of_zero_le n0
  simp only [Int.toNat_natCast]
  refine (c_room (n := z) (by omega) H3).mono ?_ ?_
  rotate_left
  · rintro v _ ⟨rfl, h5, rfl⟩
    rw [if_pos h5]
    exact ⟨5, rfl, rfl, m3.ext.drew⟩
  rintro _ ⟨h5, rfl⟩
  rw [if_neg (fun hh => hh h5)]
  have H4 := H3.keep (Ext.refl _ _).drew
  have H5 := H4.keep (Ext.refl _ _).drew
  have m5 : Mv fb rb w w3.drew.drew o o := (m3.tr (.no (Ext.refl _ _).drew)).tr (.no (Ext.refl _ _).drew)
  refine ⟨fun w' => Blk w' fb (fcells rb o most) 57, H5.blk, Nn.of ?_⟩
  simp only [add_lit, Nat.zero_add]
  refine LdS.of (fun w' h => h) (o := 1) (x := o) rfl (Nn.of (LdS.of (fun w' h => h) (o := 0) (x := at0 rb) rfl ?_))
  obtain ⟨hp5, way5, hw5, hrd5⟩ := H5.rd
  refine (c_raw hrd5 hp5 hs (z : Int)).mono ?_
  rintro v e w6 ⟨rfl, rfl, h6, e6⟩
  have hpos : ¬ ((z : Int) < 0 ∨ ((p + 7) / 8 * 8 + 16 + 16) % 8 ≠ 0) := by omega
  refine ⟨e6.blk H5.blk h.ne, ?_⟩
  refine (c_mustS _ _ _).mono ?_ ?_
  rotate_left
  · rintro v _ ⟨rfl, h7, rfl⟩
    by_cases hend : ((s.size - ((p + 7) / 8 * 8 + 16 + 16) / 8 : Nat) : Int) < (z : Int)
    · rw [rawR_end hpos hend]
      rw [if_pos (by omega)]
      exact ⟨4, rfl, rfl, (m5.tr (.rd e6)).ext⟩
    · rw [rawR_ok hpos hend] at h7
      exact absurd rfl h7
  rintro r _ ⟨h7, rfl, rfl⟩
  by_cases hend : ((s.size - ((p + 7) / 8 * 8 + 16 + 16) / 8 : Nat) : Int) < (z : Int)
  · rw [rawR_end hpos hend] at h7
    exact absurd h7 (by show ¬ (4 : Int) = 0; decide)
  rw [rawR_ok hpos hend] at h6 ⊢
  rw [if_neg (by omega)]
  simp only [Int.toNat_natCast] at h6 ⊢
  have H6 := H5.read e6 ⟨by omega, way5, hw5, h6⟩
  have hsz : (s.extract (((p + 7) / 8 * 8 + 16 + 16) / 8) (((p + 7) / 8 * 8 + 16 + 16) / 8 + z)).size = z := by rw [ByteArray.size_extract]; omega
  have hbig := h.big
  obtain ⟨o1, w7, hrun, hrow, hext, hown⟩ := app_str (ty := 29) H6.row (s.extract (((p + 7) / 8 * 8 + 16 + 16) / 8) (((p + 7) / 8 * 8 + 16 + 16) / 8 + z)) (by rw [hsz]; omega)
  refine ⟨H6.blk, o1, w7, hrun, Nn.of ?_⟩
  simp only [add_lit, Nat.zero_add]
  refine H6.put (by rw [List.length_append, ← size_list, hsz]; omega) hext hrow hown fun w8 H8 m8 => ?_
  exact ⟨o1, _, _, rfl, H8, (m5.tr (.rd e6)).tr m8⟩
end
end Inf
end Go.Proofs.YtjkoafjnmkchdaaGreatDoor

/- Inflate: the program's copies and signs. Conditions: sizes. -/
namespace Go.Proofs.YtjkoafjnmkchdaaGreatDoor
namespace Inf
open Sh Bit
set_option linter.unusedVariables false
set_option linter.unusedSimpArgs false
set_option maxRecDepth 4000
set_option maxHeartbeats 2000000
theorem LdS.mk {α : Type} {S : World → Prop} {V : α → Value} {K : α → Prop} {x : α} {a : Addr} (h : ∀ w, S w → w.cell? a = some (V x)) (k : K x) : LdS S a V K := ⟨x, h, k⟩
theorem getD_some {l : List UInt8} {i : Nat} (h : i < l.length) : l[i]? = some (l.getD i 0) := by
  rw [List.getD_eq_getElem?_getD, List.getElem?_eq_getElem h]
  rfl
theorem more24 {k : Nat} (hk : k ≤ 29) : moreL k ≤ 24 ∧ moreD k ≤ 24 := by
  constructor
  · unfold moreL; split <;> omega
  · unfold moreD; omega
theorem more6 {k : Nat} (hk : k ≤ 28) : moreL k ≤ 6 := by unfold moreL; split <;> omega
theorem base_pos {k : Nat} (hk : k ≤ 30) : 1 ≤ baseD k ∧ 1 ≤ baseL k := by
  constructor
  · induction k with
    | zero => exact Nat.le_refl _
    | succ k ih => exact Nat.le_trans (ih (by omega)) (Nat.le_add_right _ _)
  · induction k with
    | zero => show 1 ≤ 3; omega
    | succ k ih => exact Nat.le_trans (ih (by omega)) (Nat.le_add_right _ _)
attribute [local irreducible] Ld St Nw Nn Lt LdS
section
variable {w : World} {fb rb : Nat} {o : Slc} {s : ByteArray} {out : List UInt8} {p most : Nat}
theorem c_copied {sg : Nat} {far : List Int} {lo hi tb : Nat} (hsg : 256 < sg) (hsg2 : sg ≤ 100000) (h : FS w fb rb o s out p most) (hs : s.size ≤ 1000000) (ht : TB w lo hi tb far) (hk : Lok far) (hS : Sep lo hi fb rb o w) :
    C102 (some (⟨fb, 0, none⟩ : Addr)) (sg : Int) (some (⟨tb, 0, none⟩ : Addr)) w (OkR fb rb w o s most (copied s far most sg out p)) (ErR fb rb w o (copied s far most sg out p)) := by
  refine T102 _ _ _ _ _ _ ?_
  unfold S102 copied
  refine (c_need _ 13 _).mono ?_ ?_
  rotate_left
  · rintro v _ ⟨rfl, h1, rfl⟩
    have h1 := of_decide_eq_false h1
    rw [if_pos (by omega)]
    exact ⟨13, rfl, rfl, Ext.refl _ _⟩
  rintro w ⟨h1, rfl⟩
  have h1 := of_decide_eq_true h1
  rw [if_neg (by omega)]
  obtain ⟨k, rfl⟩ : ∃ k, sg = 257 + k := ⟨sg - 257, by omega⟩
  have hk28 : k ≤ 28 := by omega
  rw [i64_id (by omega), show ((257 + k : Nat) : Int) - 257 = (k : Int) by omega, show 257 + k - 257 = k by omega]
  refine (c_size k hk28 w).mono ?_
  rintro r w1 ⟨rfl, e1⟩
  obtain ⟨b1, b2, b3, b4, b5⟩ := base_bd (k := k) (by omega)
  have H1 := h.keep e1
  have m1 : Mv fb rb w w1 o o := .no e1
  refine (c_bits (n := moreL k) (more24 (by omega)).1 H1 hs).mono ?_ ?_
  rotate_left
  · rintro v w2 ⟨hn, rfl, e2⟩
    rw [hn]
    exact ⟨4, rfl, rfl, m1.er (Mv.rd e2).ext⟩
  rintro x w2 ⟨q, hn, H2, e2⟩
  rw [hn]
  have m2 := m1.tr (.rd e2)
  obtain ⟨x0, x1, x2, x3⟩ := num_bd hn
  dsimp only
  have hp30 : (2 : Int) ^ moreL k ≤ 2 ^ 6 := two_pow_le (more6 hk28)
  have h06 : (2 : Int) ^ 6 = 64 := by decide
  have h24 : (2 : Int) ^ 24 = 16777216 := by decide
  refine (c_Size _ x w2).mono ?_
  rintro r e w3 ⟨hr, e3⟩
  have H3 := H2.keep e3
  have m3 := m2.tr (.no e3)
  have hsize : sizeF ((257 + k : Nat) : Int) x = ((firstL k : Int) + x, 0) := by
    unfold sizeF
    rw [if_neg (by omega), show (((257 + k : Nat) : Int) - 257).toNat = k by omega, if_neg (by omega)]
  rw [hsize] at hr
  obtain ⟨rfl, rfl⟩ := Prod.mk.inj hr
  refine (c_mustI _ 0 w3).mono ?_ ?_
  rotate_left
  · rintro v _ ⟨_, h2, _⟩
    exact absurd rfl h2
  rintro r w3 ⟨_, rfl, rfl⟩
  refine Nn.of (Ld.of H3.blk (o := 0) (x := at0 rb) rfl ?_)
  refine (c_tread (ht.mv hS m3.ext) hk H3.rd hs hS.r).mono ?_
  rintro r e w4 ⟨e4, q4, hT, hr4⟩
  have m4 := m3.tr (.rd e4)
  refine (c_mustI _ e w4).mono ?_ ?_
  rotate_left
  · rintro v _ ⟨rfl, h2, rfl⟩
    rcases hT with ⟨g, _, _, h3⟩ | ⟨h3, _⟩
    · exact absurd h3 h2
    · rw [h3]
      exact ⟨e, rfl, rfl, m4.ext⟩
  rintro r w4 ⟨rfl, rfl, rfl⟩
  obtain ⟨d, hd, rfl, _⟩ : ∃ g : Nat, sym far s q = .ok (g, q4) ∧ r = (g : Int) ∧ (0 : Int) = 0 := by
    rcases hT with hT | ⟨_, h3⟩
    · exact hT
    · exact absurd rfl h3
  rw [hd]
  have H4 := H3.read e4 (hr4 rfl)
  obtain ⟨d1, d2, d3⟩ := sym_ok hd
  have hlen := hk.len
  dsimp only
  refine (c_need _ 13 _).mono ?_ ?_
  rotate_left
  · rintro v _ ⟨rfl, h2, rfl⟩
    have h2 := of_decide_eq_false h2
    rw [if_pos (by omega)]
    exact ⟨13, rfl, rfl, m4.ext⟩
  rintro w4 ⟨h2, rfl⟩
  have h2 := of_decide_eq_true h2
  rw [if_neg (by omega)]
  refine (c_farS d (by omega) w4).mono ?_
  rintro r w5 ⟨rfl, e5⟩
  have H5 := H4.keep e5
  have m5 := m4.tr (.no e5)
  obtain ⟨c1, c2, c3, c4, c5⟩ := base_bd (k := d) (by omega)
  have cp := (base_pos (k := d) (by omega)).1
  refine (c_bits (n := moreD d) (more24 (by omega)).2 H5 hs).mono ?_ ?_
  rotate_left
  · rintro v w6 ⟨hn, rfl, e6⟩
    rw [hn]
    exact ⟨4, rfl, rfl, m5.er (Mv.rd e6).ext⟩
  rintro y w6 ⟨q6, hn6, H6, e6⟩
  rw [hn6]
  have m6 := m5.tr (.rd e6)
  obtain ⟨y0, y1, y2, y3⟩ := num_bd hn6
  dsimp only
  have hp31 : (2 : Int) ^ moreD d ≤ 2 ^ 24 := two_pow_le (more24 (k := d) (by omega)).2
  refine (c_Far _ y w6).mono ?_
  rintro r e w7 ⟨hr, e7⟩
  have H7 := H6.keep e7
  have m7 := m6.tr (.no e7)
  have hfar : farF (d : Int) y = ((baseD d : Int) + y, 0) := by
    unfold farF
    rw [if_neg (by omega), Int.toNat_natCast, if_neg (by omega)]
  rw [hfar] at hr
  obtain ⟨rfl, rfl⟩ := Prod.mk.inj hr
  refine (c_mustI _ 0 w7).mono ?_ ?_
  rotate_left
  · rintro v _ ⟨_, h3, _⟩
    exact absurd rfl h3
  rintro r w7 ⟨_, rfl, rfl⟩
  obtain ⟨x, rfl⟩ := Int.eq_ofNat_of_zero_le x0
  obtain ⟨y, rfl⟩ := Int.eq_ofNat_of_zero_le y0
  simp only [Int.toNat_natCast]
  refine Nn.of ?_
  simp only [add_lit, Nat.zero_add]
  refine Ld.of H7.blk (o := 1) (x := o) rfl ?_
  rw [H7.row.len]
  refine (c_need _ 14 _).mono ?_ ?_
  rotate_left
  · rintro v _ ⟨rfl, h3, rfl⟩
    have h3 := of_decide_eq_false h3
    rw [if_pos (by omega)]
    exact ⟨14, rfl, rfl, m7.ext⟩
  rintro w7 ⟨h3, rfl⟩
  have h3 := of_decide_eq_true h3
  rw [if_neg (by omega), show (firstL k : Int) + (x : Int) = ((firstL k + x : Nat) : Int) by omega]
  refine (c_room (n := firstL k + x) (by omega) H7).mono ?_ ?_
  rotate_left
  · rintro v _ ⟨rfl, h5, rfl⟩
    rw [if_pos (by omega)]
    exact ⟨5, rfl, rfl, m7.ext.drew⟩
  rintro _ ⟨h5, rfl⟩
  rw [if_neg (by omega)]
  have H8 := H7.keep (Ext.refl _ _).drew
  have m8 : Mv fb rb w w7.drew o o := m7.tr (.no (Ext.refl _ _).drew)
  refine ⟨fun n st w9 => ∃ (j : Nat) (o9 : Slc), st = (j : Int) ∧ j ≤ firstL k + x ∧ n = firstL k + x - j ∧ FS w9 fb rb o9 s (copy out (baseD d + y) j) q6 most ∧ Mv fb rb w w9 o o9, firstL k + x, ⟨0, o, rfl, by omega, rfl, H8, m8⟩, ?_⟩
  rintro n st w9 ⟨j, o9, rfl, hj, rfl, H9, m9⟩
  unfold S102L1
  refine Br.dec (fun q => ?_) fun q => ?_
  · have hcl := copy_len out (baseD d + y) j
    have hbig := h.big
    have hl9 := H9.len
    refine ⟨fun w' => Ext (fun _ => False) w9 w', (Ext.refl _ _).drew, Nn.of ?_⟩
    simp only [add_lit, Nat.zero_add]
    have hB : ∀ w', Ext (fun _ => False) w9 w' → Blk w' fb (fcells rb o9 most) 57 := fun w' e => e.blk H9.blk fun h => h
    refine LdS.of hB (o := 1) (x := o9) rfl (Nn.of ?_)
    simp only [add_lit, Nat.zero_add]
    refine LdS.of hB (o := 1) (x := o9) rfl (Nn.of ?_)
    simp only [add_lit, Nat.zero_add]
    refine LdS.of hB (o := 1) (x := o9) rfl ?_
    rw [H9.row.len, hcl, i64_id (by omega), show ((out.length + j : Nat) : Int) - ((baseD d : Int) + (y : Int)) = ((out.length + j - (baseD d + y) : Nat) : Int) by omega]
    have hlt : out.length + j - (baseD d + y) < (copy out (baseD d + y) j).length := by omega
    obtain ⟨g, hg, hc⟩ := H9.row.get (getD_some hlt)
    rw [hg]
    refine ⟨by omega, by omega, Nn.of ?_⟩
    simp only [add_lit, Int.toNat_natCast, Nat.mul_one, Nat.zero_add]
    refine LdS.mk (x := (((copy out (baseD d + y) j).getD (out.length + j - (baseD d + y)) 0).toNat : Int)) (fun w' e => e.cell_same hc) (Nw.of ⟨(Ext.refl _ _).drew.alloc _, ?_⟩)
    have H10 := H9.keep ((Ext.refl _ w9).drew.alloc (.cells #[.int .u8 (((copy out (baseD d + y) j).getD (out.length + j - (baseD d + y)) 0).toNat : Int)] 5))
    obtain ⟨o1, w11, hrun, hrow, hext, hown⟩ := app_one (ty := 29) (b := (copy out (baseD d + y) j).getD (out.length + j - (baseD d + y)) 0) H10.row (Blk.new w9.drew _ _) (by omega)
    refine ⟨o1, w11, hrun, Nn.of ?_⟩
    simp only [add_lit, Nat.zero_add]
    refine H10.put (by rw [List.length_append, hcl]; simp; omega) hext hrow hown fun w12 H12 m12 => ?_
    refine ⟨firstL k + x - (j + 1), by omega, j + 1, o1, by rw [i64_id (by omega)]; rfl, by omega, rfl, ?_, (m9.tr (.no ((Ext.refl _ w9).drew.alloc _))).tr m12⟩
    have e : copy out (baseD d + y) (j + 1) = copy out (baseD d + y) j ++ [(copy out (baseD d + y) j).getD (out.length + j - (baseD d + y)) 0] := by
      show copy out (baseD d + y) j ++ [(copy out (baseD d + y) j).getD ((copy out (baseD d + y) j).length - (baseD d + y)) 0] = _
      rw [hcl]
    rw [e]
    exact H12
  · have : j = firstL k + x := by omega
    subst this
    exact ⟨o9, _, _, rfl, H9, m9⟩
theorem c_coded {near far : List Int} {lo hi tn lo2 hi2 tf : Nat} (h : FS w fb rb o s out p most) (hs : s.size ≤ 1000000) (hn : TB w lo hi tn near) (hkn : Lok near) (hS : Sep lo hi fb rb o w) (hf : TB w lo2 hi2 tf far) (hkf : Lok far) (hS2 : Sep lo2 hi2 fb rb o w) :
    C77 (some (⟨fb, 0, none⟩ : Addr)) (some (⟨tn, 0, none⟩ : Addr)) (some (⟨tf, 0, none⟩ : Addr)) w (OkR fb rb w o s most (signsF s near far most (8 * s.size + 1) out p)) (ErR fb rb w o (signsF s near far most (8 * s.size + 1) out p)) := by
  refine T77 _ _ _ _ _ _ ?_
  unfold S77
  have hnl := hkn.len
  generalize hR : signsF s near far most (8 * s.size + 1) out p = R0
  refine ⟨fun n st w1 => ∃ o1 out1 q, FS w1 fb rb o1 s out1 q most ∧ Mv fb rb w w1 o o1 ∧ 8 * s.size < q + n ∧ signsF s near far most n out1 q = R0, 8 * s.size + 1, ⟨o, out, p, h, .refl, by omega, hR⟩, ?_⟩
  rintro n st w1 ⟨o1, out1, q, H1, m1, hfu, hres⟩
  unfold S77L1
  have hq := H1.rd.1
  obtain ⟨n, rfl⟩ : ∃ n', n = n' + 1 := ⟨n - 1, by omega⟩
  unfold signsF at hres
  refine Nn.of (Ld.of H1.blk (o := 0) (x := at0 rb) rfl ?_)
  refine (c_tread (hn.mv hS m1.ext) hkn H1.rd hs hS.r).mono ?_
  rintro r e w2 ⟨e2, q2, hT, hr2⟩
  have m2 := m1.tr (.rd e2)
  refine (c_mustI _ e w2).mono ?_ ?_
  rotate_left
  · rintro v _ ⟨rfl, h2, rfl⟩
    rcases hT with ⟨g, _, _, h3⟩ | ⟨h3, _⟩
    · exact absurd h3 h2
    · rw [h3] at hres
      exact ⟨e, hres.symm, rfl, m2.ext⟩
  rintro r w2 ⟨rfl, rfl, rfl⟩
  obtain ⟨g, hg, rfl, _⟩ : ∃ g : Nat, sym near s q = .ok (g, q2) ∧ r = (g : Int) ∧ (0 : Int) = 0 := by
    rcases hT with hT | ⟨_, h3⟩
    · exact hT
    · exact absurd rfl h3
  have H2 := H1.read e2 (hr2 rfl)
  obtain ⟨g1, g2, g3⟩ := sym_ok hg
  rw [hg] at hres
  dsimp only at hres
  have hbig := h.big
  have hl2 := H2.len
  refine Br.dec (fun q3 => ?_) fun q3 => Br.eq (fun q4 => ?_) fun q4 => ?_
  · rw [if_neg (by omega), if_neg (by omega)] at hres
    refine (c_room (n := 1) (by omega) H2).mono ?_ ?_
    rotate_left
    · rintro v _ ⟨rfl, h5, rfl⟩
      rw [if_pos (by omega)] at hres
      exact ⟨5, hres.symm, rfl, m2.ext.drew⟩
    rintro _ ⟨h5, rfl⟩
    rw [if_neg (by omega)] at hres
    have H3 := H2.keep (Ext.refl _ _).drew
    refine Nn.of ?_
    simp only [add_lit, Nat.zero_add]
    refine Ld.of H3.blk (o := 1) (x := o1) rfl (Nw.of ?_)
    have hb : IntKind.u8.wrap (g : Int) = ((UInt8.ofNat g).toNat : Int) := by
      rw [u8_id (by omega), UInt8.toNat_ofNat', Nat.mod_eq_of_lt (by omega)]
    rw [hb]
    have H4 := H3.keep ((Ext.refl _ w2.drew).alloc (.cells #[.int .u8 ((UInt8.ofNat g).toNat : Int)] 5))
    obtain ⟨o5, w5, hrun, hrow, hext, hown⟩ := app_one (ty := 29) (b := UInt8.ofNat g) H4.row (Blk.new w2.drew _ _) (by omega)
    refine ⟨o5, w5, hrun, Nn.of ?_⟩
    simp only [add_lit, Nat.zero_add]
    refine H4.put (by rw [List.length_append]; simp; omega) hext hrow hown fun w6 H6 m6 => ?_
    exact ⟨n, by omega, o5, _, q2, H6, (m2.tr (.no ((Ext.refl _ w2).drew.alloc _))).tr m6, by omega, hres⟩
  · rw [if_pos (by omega)] at hres
    exact ⟨o1, _, _, hres.symm, H2, m2⟩
  · rw [if_neg (by omega), if_pos (by omega)] at hres
    refine (c_copied (by omega) (by omega) H2 hs (hf.mv hS2 m2.ext) hkf (hS2.mv m2)).mono ?_ ?_
    · rintro w3 ⟨o3, out3, q3, hc, H3, m3⟩
      rw [hc] at hres
      dsimp only at hres
      obtain ⟨c1, c2, c3⟩ := copied_ok hc
      exact ⟨n, by omega, o3, out3, q3, H3, m2.tr m3, by omega, hres⟩
    · rintro v w3 ⟨e, hc, rfl, hx⟩
      rw [hc] at hres
      exact ⟨e, hres.symm, rfl, m2.er hx⟩
end
end Inf
end Go.Proofs.YtjkoafjnmkchdaaGreatDoor

/- Inflate: slices.Repeat, the laid variables, the program's Fixed and lengths. Conditions: sizes. -/
namespace Go.Proofs.YtjkoafjnmkchdaaGreatDoor
namespace Inf
open Sh Bit
set_option linter.unusedVariables false
set_option linter.unusedSimpArgs false
set_option maxRecDepth 4000
set_option maxHeartbeats 2000000
theorem iand_u64 {x y : Nat} (hx : x < 2 ^ 63) (hy : y < 2 ^ 63) : iand .u64 (x : Int) (y : Int) = ((x &&& y : Nat) : Int) := by
  unfold iand
  rw [ofInt_nat, ofInt_nat]
  have h1 : (BitVec.ofNat IntKind.u64.bits x &&& BitVec.ofNat IntKind.u64.bits y).toNat = x &&& y := by
    rw [BitVec.toNat_and, BitVec.toNat_ofNat, BitVec.toNat_ofNat, Nat.mod_eq_of_lt (by simp [IntKind.bits]; omega), Nat.mod_eq_of_lt (by simp [IntKind.bits]; omega)]
  rw [h1]
  have h2 : x &&& y < 2 ^ 63 := Nat.and_lt_two_pow x hy
  exact u64_id (by omega)
theorem low32 {x : Nat} (hx : x < 4294967296) : iand .u64 (x : Int) 4294967295 = (x : Int) := by
  have := iand_u64 (x := x) (y := 4294967295) (by omega) (by omega)
  rw [show (4294967295 : Int) = ((4294967295 : Nat) : Int) by rfl, this, show (4294967295 : Nat) = 2 ^ 32 - 1 by decide, Nat.and_two_pow_sub_one_eq_mod, Nat.mod_eq_of_lt (by omega)]
theorem fdiv32 {x : Nat} (hx : x < 4294967296) : Int.fdiv (x : Int) (2 ^ 32) = 0 := by
  rw [fdiv_pow, show (2 : Int) ^ 32 = 4294967296 by decide]
  omega
attribute [local irreducible] Ld St Nw Nn Lt LdS
section
variable {w : World}
theorem c_mul64 {c : Nat} (hc : c ≤ 1000000) (w : World) : C123 1 (c : Int) w fun hi lo w1 => hi = 0 ∧ lo = (c : Int) ∧ w1 = w := by
  refine T123 _ _ _ _ ?_
  unfold S123
  have h1 : iand .u64 (1 : Int) 4294967295 = 1 := low32 (x := 1) (by omega)
  have h2 : Int.fdiv (1 : Int) (2 ^ 32) = 0 := fdiv32 (x := 1) (by omega)
  refine Lt.of (Lt.of (Lt.of (Lt.of ?_)))
  rw [h1, h2, low32 (x := c) (by omega), fdiv32 (x := c) (by omega)]
  simp only [Int.one_mul, Int.zero_mul, Int.mul_zero]
  rw [u64_id (n := (c : Int)) (by omega), fdiv32 (x := c) (by omega)]
  have e0 : IntKind.u64.wrap 0 = 0 := u64_id (by omega)
  simp only [e0, Int.add_zero]
  have h3 : iand .u64 (0 : Int) 4294967295 = 0 := low32 (x := 0) (by omega)
  have h4 : Int.fdiv (0 : Int) (2 ^ 32) = 0 := fdiv32 (x := 0) (by omega)
  simp only [h3, h4, e0, Int.add_zero]
  simp
theorem c_mulB {c : Nat} (hc : c ≤ 1000000) (w : World) : C110 1 (c : Int) w fun hi lo w1 => hi = 0 ∧ lo = (c : Int) ∧ w1 = w := by
  refine T110 _ _ _ _ ?_
  unfold S110
  exact c_mul64 hc w
theorem und_ints : Tryz.prog.underlying 76 = some (.slice 3) := by kernel_rfl
theorem info_int : (Tryz.prog.info? 3).map (·.size) = some 1 := by kernel_rfl
def repT (c k : Nat) (x : Int) : List Int := List.replicate k x ++ List.replicate (c - k) 0
theorem repT_len {c k : Nat} (hk : k ≤ c) (x : Int) : (repT c k x).length = c := by unfold repT; simp; omega
theorem repT_put {c k n : Nat} (h : k + n ≤ c) (x : Int) : (ints (repT c k x)).take k ++ ints (List.replicate n x) ++ (ints (repT c k x)).drop (k + n) = ints (repT c (k + n) x) := by
  unfold ints repT
  rw [List.map_append, List.take_left' (by simp), List.drop_append]
  simp only [List.map_replicate, List.map_append, List.length_replicate, List.drop_replicate]
  rw [show k - (k + n) = 0 by omega, show k + n - k = n by omega, List.replicate_zero, List.nil_append, List.replicate_append_replicate, show c - k - n = c - (k + n) by omega]
theorem setRow_blk {w : World} {g : Nat} {cur : Array Value} {t : TypeId} (h : Blk w g cur t) (cs : Array Value) : Blk (w.setRow g cs) g cs t ∧ Ext (· = g) w (w.setRow g cs) :=
  ⟨setRow_heap w g cur cs t _ h, ⟨rfl, rfl, rfl, by simp [World.setRow], fun k _ hk => setRow_other w g k _ (fun e => hk e)⟩⟩
theorem copy_rep {w : World} {g c k n sLen sCap : Nat} {x : Int} {a : Addr} (hB : Blk w g (ints (repT c k x)).toArray 3) (hn : n = Nat.min sLen (c - k)) (hk : k ≤ c) (hsrc : ∀ j v, (ints (List.replicate n x))[j]? = some v → w.cell? (a.add j) = some v) :
    ∃ w', RunV Tryz.prog (Builtin.copy_ #[76, 76] 3 #[Slc.v ⟨some ⟨g, k, none⟩, c - k, c - k⟩, Slc.v ⟨some a, sLen, sCap⟩]) w (.int .i64 (n : Int)) w' ∧ Blk w' g (ints (repT c (k + n) x)).toArray 3 ∧ Ext (· = g) w w' := by
  have hnc : n ≤ c - k := by rw [hn]; exact Nat.min_le_right _ _
  have hl : (ints (List.replicate n x)).length = n := by rw [ints_len, List.length_replicate]
  have h := run_copy_row (P := Tryz.prog) w 76 76 3 3 g k (c - k) (c - k) a sLen sCap (ints (repT c k x)).toArray 3 (ints (List.replicate n x)) und_ints info_int hB (by rw [hl, hn]) hsrc (by rw [hl, List.size_toArray, ints_len, repT_len hk]; omega) (ints_one _)
  rw [hl] at h
  have e : ((ints (repT c k x)).toArray.toList.take k ++ ints (List.replicate n x) ++ (ints (repT c k x)).toArray.toList.drop (k + n)) = ints (repT c (k + n) x) := repT_put (by omega) x
  rw [e] at h
  obtain ⟨b1, b2⟩ := setRow_blk hB (ints (repT c (k + n) x)).toArray
  exact ⟨_, h, b1, b2⟩
theorem c_repeat {g c : Nat} {x : Int} (hg : Blk w g #[.int .i64 x] 3) (hc : 1 ≤ c) (hc2 : c ≤ 1000) :
    C88 (⟨some ⟨g, 0, none⟩, 1, 1⟩ : Slc) (c : Int) w (fun r w1 => IV w1 r (List.replicate c x) ∧ Ext (fun _ => False) w w1 ∧ ∀ j, r.own j → w.heap.size ≤ j ∧ j < w1.heap.size) fun _ _ => False := by
  refine T88 _ _ _ _ _ ?_
  unfold S88
  refine Br.f (by simp) ?_
  rw [show IntKind.u64.wrap (((⟨some ⟨g, 0, none⟩, 1, 1⟩ : Slc).len : Nat) : Int) = 1 from u64_id (n := 1) (by omega), u64_id (n := (c : Int)) (by omega)]
  refine (c_mulB (by omega) w).mono ?_
  rintro hi lo w1 ⟨rfl, rfl, rfl⟩
  refine Br.f (by decide) (Br.f (by simp; omega) ?_)
  rw [i64_id (n := (c : Int)) (by omega)]
  obtain ⟨w2, hrun, hw2⟩ := elI.make (zs := [.int .i64 0]) rfl w1 c (by omega) (by omega)
  refine ⟨_, w2, hrun, ?_⟩
  have e2 : Ext (fun _ => False) w1 w2 := by rw [hw2]; exact (Ext.refl _ _).alloc _
  have hB : Blk w2 w1.heap.size (ints (repT c 0 x)).toArray 3 := by
    have e : repT c 0 x = List.replicate c 0 := by unfold repT; simp
    rw [hw2, flat_zero, e]
    exact Blk.new _ _ _
  have hsrc := e2.blk hg (fun h => h)
  obtain ⟨w3, hrun3, hB3, e3⟩ := copy_rep (n := 1) (sLen := 1) (sCap := 1) (a := ⟨g, 0, none⟩) hB ((Nat.min_eq_left (a := 1) (b := c - 0) (by omega)).symm) (by omega) fun j v hj => by
    have h0 : j = 0 := by
      have := (List.getElem?_eq_some_iff.1 hj).1
      rw [ints_len, List.length_replicate] at this
      omega
    subst h0
    have hv : Value.int .i64 x = v := by simpa [ints] using hj
    rw [add_lit, hsrc.cell, ← hv]
    rfl
  refine ⟨_, w3, hrun3, ?_⟩
  have new : ∀ {a b : World}, Ext (fun _ => False) w1 a → Ext (· = w1.heap.size) a b → Ext (fun _ => False) w1 b := fun a b => a.trans b (fun _ h => h) fun i hi e => by have e : i = w1.heap.size := e; omega
  refine ⟨fun n st w4 => ∃ k : Nat, st = (k : Int) ∧ 1 ≤ k ∧ k ≤ c ∧ n = c - k ∧ Blk w4 w1.heap.size (ints (repT c k x)).toArray 3 ∧ Ext (fun _ => False) w1 w4, c - 1, ⟨1, rfl, by omega, by omega, rfl, hB3, new e2 e3⟩, ?_⟩
  rintro n st w4 ⟨k, rfl, hk1, hk, rfl, hB4, e4⟩
  unfold S88L1
  refine Br.dec (fun q => ?_) fun q => ?_
  · have q : k < c := by have q : (k : Int) < (c : Int) := q; omega
    have cut1 : Slc.cut (⟨some ⟨w1.heap.size, 0, none⟩, c, c⟩ : Slc) 1 k c c = ⟨some ⟨w1.heap.size, k, none⟩, c - k, c - k⟩ := by
      unfold Slc.cut
      rw [if_neg (by omega)]
      simp only [Option.map_some, add_lit, Nat.zero_add, Nat.mul_one]
    have cut2 : Slc.cut (⟨some ⟨w1.heap.size, 0, none⟩, c, c⟩ : Slc) 1 0 k c = ⟨some ⟨w1.heap.size, 0, none⟩, k, c⟩ := by
      unfold Slc.cut
      rw [if_neg (by omega)]
      simp only [Option.map_some, add_lit, Nat.zero_add, Nat.zero_mul, Nat.sub_zero]
    obtain ⟨w5, hrun5, hB5, e5⟩ := copy_rep (n := Nat.min k (c - k)) (sLen := k) (sCap := c) (a := ⟨w1.heap.size, 0, none⟩) hB4.drew rfl hk fun j v hj => by
      have hjl := (List.getElem?_eq_some_iff.1 hj).1
      rw [ints_len, List.length_replicate] at hjl
      have hjk : j < k := Nat.lt_of_lt_of_le hjl (Nat.min_le_left _ _)
      have hv : Value.int .i64 x = v := by
        have := ints_get (l := List.replicate (Nat.min k (c - k)) x) (i := j) (by rw [List.length_replicate]; exact hjl)
        rw [this] at hj
        rw [List.getD_eq_getElem?_getD, List.getElem?_replicate, if_pos hjl] at hj
        exact Option.some.inj hj
      rw [add_lit, hB4.drew.cell, Nat.zero_add, List.getElem?_toArray, ints_get (by rw [repT_len hk]; omega), ← hv]
      unfold repT
      rw [List.getD_eq_getElem?_getD, List.getElem?_append_left (by rw [List.length_replicate]; omega), List.getElem?_replicate, if_pos hjk]
      rfl
    have hmin : 1 ≤ Nat.min k (c - k) := Nat.le_min.2 ⟨hk1, by omega⟩
    have hmin2 : Nat.min k (c - k) ≤ c - k := Nat.min_le_right _ _
    show 0 ≤ (k : Int) ∧ (k : Int) ≤ ((c : Nat) : Int) ∧ 0 ≤ (k : Int) ∧ (k : Int) ≤ ((c : Nat) : Int) ∧ _
    simp only [Int.toNat_natCast]
    rw [cut1, cut2]
    generalize Nat.min k (c - k) = z at *
    refine ⟨by omega, by omega, by omega, by omega, _, w5, hrun5, c - (k + z), by omega, k + z, by rw [i64_id (by omega)]; rfl, by omega, by omega, rfl, hB5, new e4.drew e5⟩
  · have q : ¬ k < c := by have q : ¬ (k : Int) < (c : Int) := q; omega
    have hkc : k = c := by omega
    subst hkc
    have e : repT k k x = List.replicate k x := by unfold repT; simp
    rw [e] at hB4
    refine ⟨IV.blk hB4 (by simp), e4, fun j hj => ?_⟩
    obtain ⟨a, ha, rfl⟩ := hj
    cases ha
    exact ⟨Nat.le_refl _, hB4.lt⟩
/-! ### The program's Fixed -/
def fixT : Nat → List Int
  | 0 => []
  | k + 1 => fixT k ++ (if k = 0 then List.replicate 144 8 else if k = 1 then List.replicate 112 9 else if k = 2 then List.replicate 24 7 else List.replicate 8 8)
theorem fixT_len : ∀ k, k ≤ 4 → (fixT k).length ≤ k * 144
  | 0, _ => Nat.le_refl _
  | k + 1, h => by
    have ih := fixT_len k (by omega)
    have e : fixT (k + 1) = fixT k ++ (if k = 0 then List.replicate 144 8 else if k = 1 then List.replicate 112 9 else if k = 2 then List.replicate 24 7 else List.replicate 8 8) := rfl
    rw [e, List.length_append]
    split
    · simp; omega
    · split
      · simp; omega
      · split
        · simp; omega
        · simp; omega
theorem c_Fixed (w : World) : C59 w (fun a b w1 => IV w1 a fixL ∧ IV w1 b fixD ∧ Ext (fun _ => False) w w1) fun _ _ => False := by
  refine T59 _ _ _ ?_
  unfold S59
  refine ⟨fun n st w1 => ∃ (k : Nat) (o : Slc), st = (o, (k : Int)) ∧ k ≤ 4 ∧ n = 4 - k ∧ Row w1 o 3 1 (ints (fixT k)) ∧ (∀ j, o.own j → w.heap.size ≤ j) ∧ Ext (fun _ => False) w w1, 4, ⟨0, ⟨none, 0, 0⟩, rfl, by omega, rfl, Row.nil _ _ _, fun j hj => (by obtain ⟨a, ha, _⟩ := hj; cases ha), Ext.refl _ _⟩, ?_⟩
  rintro n st w1 ⟨k, o, rfl, hk, rfl, hrow, hown, he⟩
  unfold S59L1
  dsimp only
  have hlen := fixT_len k hk
  have hrl := hrow.1
  rw [ints_len] at hrl
  refine Br.dec (fun q => ?_) fun q => ?_
  · have hcase : ∃ m l : Nat, (#[.int .i64 144, .int .i64 8, .int .i64 112, .int .i64 9, .int .i64 24, .int .i64 7, .int .i64 8, .int .i64 8] : Array Value).extract ((k : Int).toNat * 2) ((k : Int).toNat * 2 + 2) = #[.int .i64 (m : Int), .int .i64 (l : Int)] ∧ 1 ≤ m ∧ m ≤ 144 ∧ fixT (k + 1) = fixT k ++ List.replicate m (l : Int) := by
      have hc : k = 0 ∨ k = 1 ∨ k = 2 ∨ k = 3 := by omega
      rcases hc with rfl | rfl | rfl | rfl
      · exact ⟨144, 8, rfl, by omega, by omega, rfl⟩
      · exact ⟨112, 9, rfl, by omega, by omega, rfl⟩
      · exact ⟨24, 7, rfl, by omega, by omega, rfl⟩
      · exact ⟨8, 8, rfl, by omega, by omega, rfl⟩
    obtain ⟨m, l, hex, hm1, hm2, hfix⟩ := hcase
    refine ⟨by omega, by omega, ((m : Int), (l : Int)), hex, ?_⟩
    refine (Hn.start w1).nw fun w2 H => ?_
    simp only [List.nil_append] at H
    iterate 2 (refine H.st 0 rfl (by simp) fun _ H => ?_; simp only [List.nil_append, List.cons_append, List.set_cons_zero, List.set_cons_succ, Nat.zero_add] at H)
    iterate 1 refine H.ld 0 rfl rfl ?_
    refine H.nw fun w5 H => ?_
    simp only [List.cons_append, List.nil_append] at H
    iterate 1 refine H.ld 0 rfl rfl ?_
    refine (c_repeat (H.get 1 rfl) hm1 (by omega)).mono ?_ fun _ _ h => h.elim
    rintro r w6 ⟨hv, e6, o6⟩
    have E6 := H.ext.tr e6
    obtain ⟨o7, w7, hrun, hrow7, hl7, e7, own7⟩ := elI.app (ty := 76) (hrow.keep E6 fun _ _ h => h) hv.2 (ints_one _) (by rw [hv.1, List.length_replicate]; omega) (by rw [hv.1, List.length_replicate]; omega)
    refine ⟨o7, w7, hrun, 4 - (k + 1), by omega, k + 1, o7, by rw [i64_id (by omega)]; rfl, by omega, rfl, ?_, fun j hj => ?_, (he.tr E6).trans e7 (fun _ h => h) fun i hi h => by have := hown i h; omega⟩
    · rw [hfix, ints_app]; exact hrow7
    · have := E6.size
      have := he.size
      rcases own7 j hj with h | h
      · exact hown j h
      · omega
  · have : k = 4 := by omega
    subst this
    refine (Hn.start w1).nw fun w2 H => ?_
    simp only [List.nil_append] at H
    refine (c_repeat (c := 32) (H.get 0 rfl) (by omega) (by omega)).mono ?_ fun _ _ h => h.elim
    rintro r w3 ⟨hv, e3, o3⟩
    have hr : IV w1 o fixL := IV.row hrow
    exact ⟨(hr.keep H.ext).keep e3, hv, he.tr (H.ext.tr e3)⟩
end
end Inf
end Go.Proofs.YtjkoafjnmkchdaaGreatDoor

/- Inflate: the laid variables; the program's lengths. Conditions: sizes, the laid variables. -/
namespace Go.Proofs.YtjkoafjnmkchdaaGreatDoor
namespace Inf
open Sh Bit
set_option linter.unusedVariables false
set_option linter.unusedSimpArgs false
set_option maxRecDepth 4000
set_option maxHeartbeats 2000000
def repV (n : Int) : (Int × Int) × Bool := if n = 16 then ((3, 2), true) else if n = 17 then ((3, 3), true) else if n = 18 then ((11, 7), true) else ((0, 0), false)
/-- What the laid variables hold: order, repeats. -/
def Laid (N : Nat) (w : World) : Prop := 2 ≤ N ∧ N ≤ w.heap.size ∧ (∀ i : Nat, i < 19 → w.cell? ⟨0, i, none⟩ = some (.int .i64 ((order.getD i 0 : Nat) : Int))) ∧
  ∃ (bm : Nat) (ob : Obj), bm < N ∧ w.heap[bm]? = some ob ∧ w.cell? ⟨1, 0, none⟩ = some (.map (some bm)) ∧
    ∀ w' : World, w'.heap[bm]? = some ob → ∀ n : Int, 0 ≤ n → n < 19 → RunV Tryz.prog (Instr.lookup 159 (.map (some bm)) (.int .i64 n) true) w' (.tuple #[.agg #[.int .i64 (repV n).1.1, .int .i64 (repV n).1.2], .bool (repV n).2]) w'
theorem Laid.keep {F : Nat → Prop} {N : Nat} {w w' : World} (h : Laid N w) (he : Ext F w w') (hF : ∀ j, F j → N ≤ j) : Laid N w' := by
  obtain ⟨h1, h2, h3, bm, ob, h4, h5, h6, h7⟩ := h
  have hz := he.size
  refine ⟨h1, by omega, fun i hi => ?_, bm, ob, h4, ?_, ?_, h7⟩
  · rw [he.cell (by show 0 < w.heap.size; omega) (fun e => by have := hF _ e; have : N ≤ 0 := this; omega)]
    exact h3 i hi
  · rw [he.block bm (by omega) (fun e => by have := hF _ e; omega)]
    exact h5
  · rw [he.cell (by show 1 < w.heap.size; omega) (fun e => by have := hF _ e; have : N ≤ 1 := this; omega)]
    exact h6
/-- No block of the decompression is a laid one. -/
structure Low (N fb rb : Nat) (o : Slc) : Prop where
  f : N ≤ fb
  r : N ≤ rb
  o : ∀ j, o.own j → N ≤ j
section
variable {w w1 : World} {fb rb N : Nat} {o o1 : Slc} {s : ByteArray} {out : List UInt8} {p most : Nat}
theorem Low.mv (h : Low N fb rb o) (m : Mv fb rb w w1 o o1) (hw : N ≤ w.heap.size) : Low N fb rb o1 := ⟨h.f, h.r, fun j hj => by
  rcases m.own j hj with e | e
  · exact h.o j e
  · omega⟩
theorem Laid.mv (h : Laid N w) (k : Low N fb rb o) (m : Ext (XF fb rb o) w w1) : Laid N w1 := h.keep m fun j e => by
  rcases e with rfl | rfl | e
  · exact k.f
  · exact k.r
  · exact k.o j e
theorem elI_make0 (w : World) (c : Nat) (hc : c ≤ 1000000) : ∃ w', RunV Tryz.prog (Instr.makeSlice 76 (.int .i64 0) (.int .i64 (c : Int))) w (Slc.v ⟨some ⟨w.heap.size, 0, none⟩, 0, c⟩) w' ∧ Ext (fun _ => False) w w' ∧ Row w' ⟨some ⟨w.heap.size, 0, none⟩, 0, c⟩ 3 1 [] := by
  obtain ⟨i, hi, h1, h8, hz⟩ := elI.info
  have hr := run_make (P := Tryz.prog) w 76 3 i (.int .i64 0) und_ints hi hz .i64 .i64 0 c (by omega) (by omega) (by rw [h8]; omega) (by omega)
  simp only [Int.toNat_natCast] at hr
  refine ⟨_, hr, (Ext.refl _ _).alloc _, by simp, .inr ⟨_, _, rfl, Blk.new _ _ _, by simp, ?_, by simp⟩⟩
  rw [h1]
  exact size_madeCells _ _
theorem repV_lit {g : Nat} (h : g < 16) : repV (g : Int) = ((0, 0), false) := by
  unfold repV
  rw [if_neg (by omega), if_neg (by omega), if_neg (by omega)]
theorem repV_rep {g : Nat} (h : ¬ g < 16) (h2 : g < 19) : repV (g : Int) = ((((repL g : Nat) : Int), ((repB g : Nat) : Int)), true) := by
  have : g = 16 ∨ g = 17 ∨ g = 18 := by omega
  rcases this with rfl | rfl | rfl <;> rfl
attribute [local irreducible] Ld St Nw Nn Lt LdS
theorem c_lengths {lens : List Int} {lo hi tb many : Nat} (h : FS w fb rb o s out p most) (hs : s.size ≤ 1000000) (ht : TB w lo hi tb lens) (hk : Lok lens) (h19 : lens.length = 19) (hS : Sep lo hi fb rb o w) (hL : Laid N w) (hN : Low N fb rb o) (hm : many ≤ 1000) :
    C79 (some (⟨fb, 0, none⟩ : Addr)) (some (⟨tb, 0, none⟩ : Addr)) (many : Int) w
      (fun r w1 => ∃ l q, lensF lens s many (many + 1) [] p = .ok (l, q) ∧ IV w1 r l ∧ r.len ≤ r.cap ∧ (∀ j, r.own j → w.heap.size ≤ j) ∧ FS w1 fb rb o s out q most ∧ Ext (· = rb) w w1) (ErR fb rb w o (lensF lens s many (many + 1) [] p)) := by
  refine T79 _ _ _ _ _ _ ?_
  unfold S79
  have hfb := h.blk.lt
  have hrb := h.rd.lt
  obtain ⟨w1, hrun, e1, hrow1⟩ := elI_make0 w many (by omega)
  refine ⟨_, w1, hrun, ?_⟩
  generalize hR : lensF lens s many (many + 1) [] p = R0
  have rdx : ∀ {a b : World}, Ext (fun _ => False) a b → Ext (· = rb) a b := fun h => h.mono fun _ _ e => e.elim
  refine ⟨fun n st w2 => ∃ (l : List Int) (q : Nat), Row w2 st 3 1 (ints l) ∧ (∀ j, st.own j → w.heap.size ≤ j) ∧ FS w2 fb rb o s out q most ∧ Ext (· = rb) w w2 ∧ l.length ≤ many ∧ many < l.length + n ∧ lensF lens s many n l q = R0, many + 1, ⟨[], p, hrow1, fun j hj => (by obtain ⟨a, ha, rfl⟩ := hj; cases ha; exact Nat.le_refl _), h.keep e1, rdx e1, Nat.zero_le _, by simp, hR⟩, ?_⟩
  rintro n st w2 ⟨l, q, hrow, hown, H2, e2, hlm, hfu, hres⟩
  unfold S79L1
  have hsl : st.len = l.length := by have := hrow.1; rw [ints_len] at this; omega
  have hz2 := e2.size
  rw [hsl]
  obtain ⟨n, rfl⟩ : ∃ n', n = n' + 1 := ⟨n - 1, by omega⟩
  unfold lensF at hres
  refine Br.dec (fun q1 => ?_) fun q1 => ?_
  · rw [if_neg (by omega)] at hres
    refine Nn.of (Ld.of H2.blk (o := 0) (x := at0 rb) rfl ?_)
    have m2 : Mv fb rb w w2 o o := .rd e2
    refine (c_tread (ht.mv hS m2.ext) hk H2.rd hs hS.r).mono ?_
    rintro r e w3 ⟨e3, q3, hT, hr3⟩
    have E3 : Ext (· = rb) w w3 := e2.tr e3
    refine (c_mustI _ e w3).mono ?_ ?_
    rotate_left
    · rintro v _ ⟨rfl, h2, rfl⟩
      rcases hT with ⟨g, _, _, h3⟩ | ⟨h3, _⟩
      · exact absurd h3 h2
      · rw [h3] at hres
        exact ⟨e, hres.symm, rfl, (Mv.rd E3).ext⟩
    rintro r w3 ⟨rfl, rfl, rfl⟩
    obtain ⟨g, hg, rfl, _⟩ : ∃ g : Nat, sym lens s q = .ok (g, q3) ∧ r = (g : Int) ∧ (0 : Int) = 0 := by
      rcases hT with hT | ⟨_, h3⟩
      · exact hT
      · exact absurd rfl h3
    have H3 := H2.read e3 (hr3 rfl)
    have hrow3 := hrow.keep e3 fun j hj e => by have := hown j hj; have e : j = rb := e; omega
    obtain ⟨g1, g2, g3⟩ := sym_ok hg
    rw [h19] at g3
    rw [hg] at hres
    dsimp only at hres
    have hL3 := hL.keep E3 fun j e => by have e : j = rb := e; rw [e]; exact hN.r
    obtain ⟨n1, n2, n3, bm, ob, n4, n5, n6, n7⟩ := hL3
    refine Ld.mk n6 ⟨(repV g).1, (repV g).2, w3, n7 w3 n5 g (by omega) (by omega), ?_⟩
    refine (Hn.start w3).nw fun w4 H => ?_
    simp only [List.nil_append] at H
    have hlt4 := H.lt 0 rfl
    iterate 2 (refine H.st 0 rfl (by simp) fun _ H => ?_; simp only [List.nil_append, List.cons_append, List.set_cons_zero, List.set_cons_succ, Nat.zero_add] at H)
    have hown3 : ∀ j, st.own j → j < w3.heap.size := fun j hj => hrow3.own_lt hj
    by_cases q4 : g < 16
    · rw [repV_lit q4]
      rw [if_pos q4] at hres
      refine Br.t rfl ?_
      refine H.nw fun w7 H => ?_
      simp only [List.cons_append, List.nil_append] at H
      obtain ⟨o8, w8, hrun8, hrow8, hl8, e8, own8⟩ := elI.app1 (ty := 76) (ys := [.int .i64 (g : Int)]) (hrow3.keep H.ext fun _ _ h => h) (H.get 1 rfl) rfl (by intro v hv; rw [List.mem_singleton.1 hv]; rfl) (by omega) (by omega)
      refine ⟨o8, w8, hrun8, n, by omega, l ++ [(g : Int)], q3, ?_, fun j hj => ?_, ?_, ?_, ?_, ?_, hres⟩
      · rw [ints_app]; exact hrow8
      · have := H.size
        have := E3.size
        rcases own8 j hj with e | e
        · exact hown j e
        · omega
      · have H7 := H3.keep H.ext
        exact ⟨e8.blk H7.blk fun e => by have := hown _ e; omega, H7.rd.keep e8 fun e => by have := hown _ e; omega, H7.row.keep e8 fun j hj e => by have := hown j e; have := h.row.own_lt hj; omega, H7.ne, H7.nf, H7.nr, H7.len, H7.big⟩
      · exact (E3.tr (rdx H.ext)).trans e8 (fun _ h => h) fun i hi e => by have := hown i e; omega
      · rw [List.length_append]; simp; omega
      · rw [List.length_append]; simp; omega
    · rw [repV_rep q4 g3]
      rw [if_neg q4] at hres
      have hB : repB g ≤ 7 ∧ 2 ≤ repB g := by unfold repB; split; omega; split <;> omega
      have hLb : repL g ≤ 11 ∧ 3 ≤ repL g := by unfold repL; split <;> omega
      rw [repV_rep q4 g3] at H
      refine Br.f rfl (Br.eq (fun q5 => ?_) fun q5 => ?_)
      · have : g = 16 := by omega
        subst this
        refine (c_need _ 3 _).mono ?_ ?_
        rotate_left
        · rintro v w7 ⟨rfl, h5, rfl⟩
          have h5 := of_decide_eq_false h5
          rw [if_pos ⟨rfl, by omega⟩] at hres
          exact ⟨3, hres.symm, rfl, (Mv.rd (E3.tr (rdx H.ext))).ext⟩
        rintro w7 ⟨h5, rfl⟩
        have h5 := of_decide_eq_true h5
        rw [if_neg (by omega)] at hres
        rw [i64_id (n := ((l.length : Nat) : Int) - 1) (by omega)]
        have hvl := IV.row (hrow3.keep H.ext fun _ _ h => h)
        obtain ⟨a, ha, hc⟩ := hvl.get (i := l.length - 1) (by omega)
        rw [ha]
        refine ⟨by omega, by omega, Nn.of ?_⟩
        rw [show (((l.length : Nat) : Int) - 1).toNat = l.length - 1 by omega]
        refine Ld.mk hc ?_
        refine ⟨fun w' => Blk w' w3.heap.size #[.int .i64 (repL 16 : Nat), .int .i64 (repB 16 : Nat)] 157, (H.get 0 rfl).drew, LdS.of (fun w' h => h) (o := 0) (x := ((repL 16 : Nat) : Int)) rfl ?_⟩
        simp only [add_lit, Nat.zero_add]
        refine LdS.of (fun w' h => h) (o := 1) (x := ((repB 16 : Nat) : Int)) rfl ?_
        have H := H.drew
        have H7 := H3.keep H.ext
        have hrow7 := hrow3.keep H.ext fun _ _ h => h
        refine (c_bits (n := repB 16) (by omega) H7 hs).mono ?_ ?_
        rotate_left
        · rintro v w8 ⟨hn, rfl, e8⟩
          rw [hn] at hres
          exact ⟨4, hres.symm, rfl, (Mv.rd ((E3.tr (rdx H.ext)).tr e8)).ext⟩
        rintro x w8 ⟨q8, hn, H8, e8⟩
        rw [hn] at hres
        dsimp only at hres
        obtain ⟨x0, x1, x2, x3⟩ := num_bd hn
        have hp7 : (2 : Int) ^ repB 16 ≤ 2 ^ 7 := two_pow_le (by omega)
        have h27 : (2 : Int) ^ 7 = 128 := by decide
        obtain ⟨x, rfl⟩ := Int.eq_ofNat_of_zero_le x0
        simp only [Int.toNat_natCast] at hres
        have E8 := (E3.tr (rdx H.ext)).tr e8
        have hrow8 := hrow7.keep e8 fun j hj e => by have := hown j hj; have e : j = rb := e; omega
        have hrb3 := H3.rd.lt
        refine ⟨e8.blk (H.get 0 rfl) (fun e => by have e : w3.heap.size = rb := e; omega), ?_⟩
        rw [i64_id (n := ((repL 16 : Nat) : Int) + (x : Int)) (by omega), i64_id (by omega)]
        refine (c_need _ 3 _).mono ?_ ?_
        rotate_left
        · rintro v w8 ⟨rfl, h6, rfl⟩
          have h6 := of_decide_eq_false h6
          rw [if_pos (by omega)] at hres
          exact ⟨3, hres.symm, rfl, (Mv.rd E8).ext⟩
        rintro w8 ⟨h6, rfl⟩
        have h6 := of_decide_eq_true h6
        rw [if_neg (by omega), if_pos trivial] at hres
        refine (Hn.start w8).nw fun w9 H9 => ?_
        simp only [List.nil_append] at H9
        rw [show ((repL 16 : Nat) : Int) + (x : Int) = ((repL 16 + x : Nat) : Int) by omega]
        refine (c_repeat (H9.get 0 rfl) (c := repL 16 + x) (by omega) (by omega)).mono ?_ fun _ _ h => h.elim
        rintro r w10 ⟨hv, e10, o10⟩
        have e9 := H9.ext.tr e10
        obtain ⟨o11, w11, hrun11, hrow11, hl11, e11, own11⟩ := elI.app (ty := 76) (hrow8.keep e9 fun _ _ h => h) hv.2 (ints_one _) (by rw [hv.1, List.length_replicate]; omega) (by rw [hv.1, List.length_replicate]; omega)
        refine ⟨o11, w11, hrun11, n, by omega, _, q8, ?_, fun j hj => ?_, ?_, ?_, ?_, ?_, hres⟩
        · rw [ints_app]; exact hrow11
        · have := e9.size
          have := E8.size
          rcases own11 j hj with e | e
          · exact hown j e
          · omega
        · have H10 := H8.keep e9
          exact ⟨e11.blk H10.blk fun e => by have := hown _ e; omega, H10.rd.keep e11 fun e => by have := hown _ e; omega, H10.row.keep e11 fun j hj e => by have := hown j e; have := h.row.own_lt hj; omega, H10.ne, H10.nf, H10.nr, H10.len, H10.big⟩
        · exact (E8.tr (rdx e9)).trans e11 (fun _ h => h) fun i hi e => by have := hown i e; omega
        · rw [List.length_append, List.length_replicate]; omega
        · rw [List.length_append, List.length_replicate]; omega
      · rw [if_neg (by omega)] at hres
        have h16 : ¬ g = 16 := by omega
        refine ⟨fun w' => Blk w' w3.heap.size #[.int .i64 (repL g : Nat), .int .i64 (repB g : Nat)] 157, (H.get 0 rfl).drew, LdS.of (fun w' h => h) (o := 0) (x := ((repL g : Nat) : Int)) rfl ?_⟩
        simp only [add_lit, Nat.zero_add]
        refine LdS.of (fun w' h => h) (o := 1) (x := ((repB g : Nat) : Int)) rfl ?_
        have H := H.drew
        have H7 := H3.keep H.ext
        have hrow7 := hrow3.keep H.ext fun _ _ h => h
        refine (c_bits (n := repB g) (by omega) H7 hs).mono ?_ ?_
        rotate_left
        · rintro v w8 ⟨hn, rfl, e8⟩
          rw [hn] at hres
          exact ⟨4, hres.symm, rfl, (Mv.rd ((E3.tr (rdx H.ext)).tr e8)).ext⟩
        rintro x w8 ⟨q8, hn, H8, e8⟩
        rw [hn] at hres
        dsimp only at hres
        obtain ⟨x0, x1, x2, x3⟩ := num_bd hn
        have hp7 : (2 : Int) ^ repB g ≤ 2 ^ 7 := two_pow_le (by omega)
        have h27 : (2 : Int) ^ 7 = 128 := by decide
        obtain ⟨x, rfl⟩ := Int.eq_ofNat_of_zero_le x0
        simp only [Int.toNat_natCast] at hres
        have E8 := (E3.tr (rdx H.ext)).tr e8
        have hrow8 := hrow7.keep e8 fun j hj e => by have := hown j hj; have e : j = rb := e; omega
        have hrb3 := H3.rd.lt
        refine ⟨e8.blk (H.get 0 rfl) (fun e => by have e : w3.heap.size = rb := e; omega), ?_⟩
        rw [i64_id (n := ((repL g : Nat) : Int) + (x : Int)) (by omega), i64_id (by omega)]
        refine (c_need _ 3 _).mono ?_ ?_
        rotate_left
        · rintro v w8 ⟨rfl, h6, rfl⟩
          have h6 := of_decide_eq_false h6
          rw [if_pos (by omega)] at hres
          exact ⟨3, hres.symm, rfl, (Mv.rd E8).ext⟩
        rintro w8 ⟨h6, rfl⟩
        have h6 := of_decide_eq_true h6
        rw [if_neg (by omega), if_neg h16] at hres
        refine (Hn.start w8).nw fun w9 H9 => ?_
        simp only [List.nil_append] at H9
        rw [show ((repL g : Nat) : Int) + (x : Int) = ((repL g + x : Nat) : Int) by omega]
        refine (c_repeat (H9.get 0 rfl) (c := repL g + x) (by omega) (by omega)).mono ?_ fun _ _ h => h.elim
        rintro r w10 ⟨hv, e10, o10⟩
        have e9 := H9.ext.tr e10
        obtain ⟨o11, w11, hrun11, hrow11, hl11, e11, own11⟩ := elI.app (ty := 76) (hrow8.keep e9 fun _ _ h => h) hv.2 (ints_one _) (by rw [hv.1, List.length_replicate]; omega) (by rw [hv.1, List.length_replicate]; omega)
        refine ⟨o11, w11, hrun11, n, by omega, _, q8, ?_, fun j hj => ?_, ?_, ?_, ?_, ?_, hres⟩
        · rw [ints_app]; exact hrow11
        · have := e9.size
          have := E8.size
          rcases own11 j hj with e | e
          · exact hown j e
          · omega
        · have H10 := H8.keep e9
          exact ⟨e11.blk H10.blk fun e => by have := hown _ e; omega, H10.rd.keep e11 fun e => by have := hown _ e; omega, H10.row.keep e11 fun j hj e => by have := hown j e; have := h.row.own_lt hj; omega, H10.ne, H10.nf, H10.nr, H10.len, H10.big⟩
        · exact (E8.tr (rdx e9)).trans e11 (fun _ h => h) fun i hi e => by have := hown i e; omega
        · rw [List.length_append, List.length_replicate]; omega
        · rw [List.length_append, List.length_replicate]; omega
  · rw [if_pos (by omega)] at hres
    exact ⟨l, q, hres.symm, IV.row hrow, row_cap hrow, hown, H2, e2⟩
end
end Inf
end Go.Proofs.YtjkoafjnmkchdaaGreatDoor

/- Inflate: the program's dynamic and fixed blocks, block, All. Conditions: sizes, the laid variables. -/
namespace Go.Proofs.YtjkoafjnmkchdaaGreatDoor
namespace Inf
open Sh Bit
set_option linter.unusedVariables false
set_option linter.unusedSimpArgs false
set_option maxRecDepth 4000
set_option maxHeartbeats 2000000
theorem chk_fixL : chk fixL = 0 := by decide +kernel
theorem chk_fixD : chk fixD = 0 := by decide +kernel
/-- Lengths that are read are not negative. -/
theorem lensF_nn {s : ByteArray} {lens l2 : List Int} {many q : Nat} : ∀ (k : Nat) (l : List Int) (p : Nat), (∀ x ∈ l, 0 ≤ x) → lensF lens s many k l p = .ok (l2, q) → ∀ x ∈ l2, 0 ≤ x
  | 0, _, _, _, h => by cases h
  | k + 1, l, p, hl, h => by
    unfold lensF at h
    split at h
    · cases h; exact hl
    · split at h
      · cases h
      · split at h
        · exact lensF_nn k _ _ (fun x hx => by
            rcases List.mem_append.1 hx with hx | hx
            · exact hl x hx
            · rw [List.mem_singleton.1 hx]; omega) h
        · split at h
          · cases h
          · split at h
            · cases h
            · split at h
              · cases h
              · refine lensF_nn k _ _ (fun x hx => ?_) h
                rcases List.mem_append.1 hx with hx | hx
                · exact hl x hx
                · rw [List.eq_of_mem_replicate hx]
                  split
                  · by_cases hz : l.length - 1 < l.length
                    · exact getD_in (P := fun x => 0 ≤ x) hl hz
                    · rw [List.getD_eq_getElem?_getD, List.getElem?_eq_none (by omega)]
                      exact Int.le_refl _
                  · exact Int.le_refl _
theorem IV.take {w : World} {s : Slc} {l : List Int} (h : IV w s l) {n : Nat} (hn : n ≤ l.length) : IV w (s.cut 1 0 n s.cap) (l.take n) := by
  refine ⟨?_, ?_, fun j v hj => ?_⟩
  · show n - 0 = _
    rw [List.length_take]; omega
  · rw [ints_len, List.length_take]
    show _ = (n - 0) * 1
    omega
  · have hjl : j < (l.take n).length := by
      have := (List.getElem?_eq_some_iff.1 hj).1
      rw [ints_len] at this
      exact this
    rw [List.length_take] at hjl
    obtain ⟨a, ha, hc⟩ := h.2.2 j v (by
      rw [← hj]
      unfold ints
      rw [List.getElem?_map, List.getElem?_map, List.getElem?_take_of_lt (by omega)])
    refine ⟨a, ?_, hc⟩
    show (if s.cap = 0 then s.p else s.p.map (·.add (0 * 1))) = _
    split
    · exact ha
    · rw [ha, Nat.zero_mul]
      show some (a.add 0) = _
      have e : a.add 0 = a := by unfold Addr.add; split <;> (try split) <;> simp_all
      rw [e]
section
variable {w : World} {fb rb N : Nat} {o : Slc} {s : ByteArray} {out : List UInt8} {p most : Nat}
theorem FS.sep {w0 w1 : World} {lo hi : Nat} (h : FS w0 fb rb o s out p most) (hlo : w0.heap.size ≤ lo) (hhi : hi ≤ w1.heap.size) : Sep lo hi fb rb o w1 :=
  ⟨.inl (Nat.lt_of_lt_of_le h.blk.lt hlo), .inl (Nat.lt_of_lt_of_le h.rd.lt hlo), fun j hj => .inl (Nat.lt_of_lt_of_le (h.row.own_lt hj) hlo), hhi⟩
theorem TB.no {w w1 : World} {lo hi b : Nat} {lens : List Int} (h : TB w lo hi b lens) (he : Ext (fun _ => False) w w1) : TB w1 lo hi b lens := h.keep he fun _ _ _ h => h
attribute [local irreducible] Ld St Nw Nn Lt LdS
theorem c_fixed (h : FS w fb rb o s out p most) (hs : s.size ≤ 1000000) : C44 (some (⟨fb, 0, none⟩ : Addr)) w (OkR fb rb w o s most (signsF s fixL fixD most (8 * s.size + 1) out p)) (ErR fb rb w o (signsF s fixL fixD most (8 * s.size + 1) out p)) := by
  refine T44 _ _ _ _ ?_
  unfold S44
  refine (c_Fixed w).mono ?_ fun _ _ h => h.elim
  rintro a b w1 ⟨ha, hb, e1⟩
  refine (c_new ha).mono ?_
  rintro r e w2 ⟨rfl, e2, _, h2⟩
  obtain ⟨t1, rfl, ht1⟩ := h2 chk_fixL
  rw [chk_fixL]
  refine (c_mustT _ 0 w2).mono ?_ fun v w h => absurd rfl h.2.1
  rintro r w2 ⟨_, rfl, rfl⟩
  refine (c_new (hb.keep e2)).mono ?_
  rintro r e w3 ⟨rfl, e3, _, h3⟩
  obtain ⟨t2, rfl, ht2⟩ := h3 chk_fixD
  rw [chk_fixD]
  refine (c_mustT _ 0 w3).mono ?_ fun v w h => absurd rfl h.2.1
  rintro r w3 ⟨_, rfl, rfl⟩
  have E := (e1.tr e2).tr e3
  have z1 := e1.size
  have z2 := e2.size
  have z3 := e3.size
  refine (c_coded (h.keep E) hs (ht1.no e3) (chk_lok chk_fixL) (h.sep (by omega) (by omega)) ht2 (chk_lok chk_fixD) (h.sep (by omega) (by omega))).mono ?_ ?_
  · rintro w4 ⟨o1, out1, q, h1, h2, h3⟩
    exact ⟨o1, out1, q, h1, h2, (Mv.no E).tr h3⟩
  · rintro v w4 ⟨e, h1, h2, h3⟩
    exact ⟨e, h1, h2, (Mv.no E).er h3⟩
def dynR (s : ByteArray) (most : Nat) (out : List UInt8) (p : Nat) : Except Int (List UInt8 × Nat) := match dyn s p with
  | .error e => .error e
  | .ok (a, b, q) => signsF s a b most (8 * s.size + 1) out q
theorem order_lt : ∀ i, i < 19 → order.getD i 0 < 19 := by decide
theorem c_dynamic (h : FS w fb rb o s out p most) (hs : s.size ≤ 1000000) (hL : Laid N w) (hN : Low N fb rb o) : C45 (some (⟨fb, 0, none⟩ : Addr)) w (OkR fb rb w o s most (dynR s most out p)) (ErR fb rb w o (dynR s most out p)) := by
  refine T45 _ _ _ _ ?_
  unfold S45
  have h32 : (2 : Int) ^ 5 = 32 := by decide
  have h16 : (2 : Int) ^ 4 = 16 := by decide
  generalize hR : dynR s most out p = R0
  unfold dynR dyn at hR
  have rdx : ∀ {a b : World}, Ext (fun _ => False) a b → Ext (· = rb) a b := fun h => h.mono fun _ _ e => e.elim
  refine (c_bits (n := 5) (by omega) h hs).mono ?_ ?_
  rotate_left
  · rintro v w1 ⟨hn, rfl, e1⟩
    rw [hn] at hR
    exact ⟨4, hR.symm, rfl, (Mv.rd e1).ext⟩
  rintro hl w1 ⟨p1, hn1, H1, e1⟩
  rw [hn1] at hR
  dsimp only at hR
  obtain ⟨a0, a1, a2, a3⟩ := num_bd hn1
  rw [i64_id (n := hl + 257) (by omega)]
  refine (c_need _ 3 _).mono ?_ ?_
  rotate_left
  · rintro v w1 ⟨rfl, h3, rfl⟩
    have h3 := of_decide_eq_false h3
    rw [if_pos (by omega)] at hR
    exact ⟨3, hR.symm, rfl, (Mv.rd e1).ext⟩
  rintro w1 ⟨h3, rfl⟩
  have h3 := of_decide_eq_true h3
  rw [if_neg (by omega)] at hR
  refine (c_bits (n := 5) (by omega) H1 hs).mono ?_ ?_
  rotate_left
  · rintro v w2 ⟨hn, rfl, e2⟩
    rw [hn] at hR
    exact ⟨4, hR.symm, rfl, (Mv.rd (e1.tr e2)).ext⟩
  rintro hd w2 ⟨p2, hn2, H2, e2⟩
  rw [hn2] at hR
  dsimp only at hR
  obtain ⟨b0, b1, b2, b3⟩ := num_bd hn2
  rw [i64_id (n := hd + 1) (by omega)]
  refine (c_need _ 3 _).mono ?_ ?_
  rotate_left
  · rintro v w2 ⟨rfl, h4, rfl⟩
    have h4 := of_decide_eq_false h4
    rw [if_pos (by omega)] at hR
    exact ⟨3, hR.symm, rfl, (Mv.rd (e1.tr e2)).ext⟩
  rintro w2 ⟨h4, rfl⟩
  have h4 := of_decide_eq_true h4
  rw [if_neg (by omega)] at hR
  have E2 := e1.tr e2
  obtain ⟨hl, rfl⟩ := Int.eq_ofNat_of_zero_le a0
  obtain ⟨hd, rfl⟩ := Int.eq_ofNat_of_zero_le b0
  have hfb2 := H2.blk.lt
  have hrb2 := H2.rd.lt
  refine (Hn.start w2).nw fun w3 H => ?_
  simp only [List.nil_append] at H
  have H : Hn w2 w3 [(w2.heap.size, ints (List.replicate 19 0), 108)] := H
  refine (c_bits (n := 4) (by omega) (H2.keep H.ext) hs).mono ?_ ?_
  rotate_left
  · rintro v w4 ⟨hn, rfl, e4⟩
    rw [hn] at hR
    exact ⟨4, hR.symm, rfl, (Mv.rd ((E2.tr (rdx H.ext)).tr e4)).ext⟩
  rintro hc w4 ⟨p4, hn4, H4, e4⟩
  rw [hn4] at hR
  dsimp only at hR
  obtain ⟨c0, c1, c2, c3⟩ := num_bd hn4
  obtain ⟨hc, rfl⟩ := Int.eq_ofNat_of_zero_le c0
  have E4 := (E2.tr (rdx H.ext)).tr e4
  rw [i64_id (n := (hc : Int) + 4) (by omega), show ((hc : Int) + 4).toNat = hc + 4 by omega]
  have cut1 : Slc.cut (⟨some (⟨0, 0, none⟩ : Addr), 19, 19⟩ : Slc) 1 0 (hc + 4) 19 = ⟨some ⟨0, 0, none⟩, hc + 4, 19⟩ := by
    unfold Slc.cut
    rw [if_neg (by omega)]
    simp only [Option.map_some, add_lit, Nat.zero_add, Nat.zero_mul, Nat.sub_zero]
  have cut2 : Slc.cut (⟨some (⟨w2.heap.size, 0, none⟩ : Addr), 19, 19⟩ : Slc) 1 0 19 19 = ⟨some ⟨w2.heap.size, 0, none⟩, 19, 19⟩ := by
    unfold Slc.cut
    rw [if_neg (by omega)]
    simp only [Option.map_some, add_lit, Nat.zero_add, Nat.zero_mul, Nat.sub_zero]
  rw [cut1]
  refine ⟨by omega, by omega, Lt.of ?_⟩
  have hB4 : Blk w4 w2.heap.size (ints (List.replicate 19 0)).toArray 108 := e4.blk (H.get 0 rfl) fun e => by have e : w2.heap.size = rb := e; omega
  generalize hR19 : lens19 s (order.take (hc + 4)) (List.replicate 19 0) p4 = R19
  simp only [Int.toNat_natCast] at hR
  rw [hR19] at hR
  refine ⟨fun n st w5 => ∃ (i : Nat) (l : List Int) (q : Nat), st = (i : Int) ∧ i ≤ hc + 4 ∧ n = hc + 4 - i ∧ l.length = 19 ∧ Blk w5 w2.heap.size (ints l).toArray 108 ∧ FS w5 fb rb o s out q most ∧ Ext (· = rb) w w5 ∧ lens19 s ((order.take (hc + 4)).drop i) l q = R19, hc + 4, ⟨0, _, p4, rfl, by omega, rfl, by simp, hB4, H4, E4, hR19⟩, ?_⟩
  rintro n st w5 ⟨i, l, q, rfl, hi, rfl, hl19, hB5, H5, E5, hres⟩
  unfold S45L1
  rw [i64_id (n := (hc : Int) + 4) (by omega), show ((hc : Int) + 4).toNat = hc + 4 by omega, cut1]
  have hL5 := hL.keep E5 fun j e => by have e : j = rb := e; rw [e]; exact hN.r
  refine Br.dec (fun q1 => ?_) fun q1 => ?_
  · have q1 : i < hc + 4 := by have q1 : (i : Int) < ((hc + 4 : Nat) : Int) := q1; omega
    refine ⟨by omega, by show (i : Int) < ((hc + 4 : Nat) : Int); omega, Nn.of ?_⟩
    simp only [add_lit, Int.toNat_natCast, Nat.mul_one, Nat.zero_add]
    refine Ld.mk (hL5.2.2.1 i (by omega)) ?_
    have hol := order_lt i (by omega)
    have hdrop : (order.take (hc + 4)).drop i = order.getD i 0 :: (order.take (hc + 4)).drop (i + 1) := by
      have hlen : (order.take (hc + 4)).length = hc + 4 := by rw [List.length_take]; show min (hc + 4) 19 = _; omega
      rw [List.drop_eq_getElem_cons (by omega)]
      congr 1
      rw [List.getElem_take, List.getD_eq_getElem?_getD, List.getElem?_eq_getElem (by show i < 19; omega)]
      rfl
    rw [hdrop] at hres
    unfold lens19 at hres
    refine (c_bits (n := 3) (by omega) H5 hs).mono ?_ ?_
    rotate_left
    · rintro v w6 ⟨hn, rfl, e6⟩
      rw [hn] at hres
      rw [← hres] at hR
      exact ⟨4, hR.symm, rfl, (Mv.rd (E5.tr e6)).ext⟩
    rintro x w6 ⟨q6, hn6, H6, e6⟩
    rw [hn6] at hres
    dsimp only at hres
    refine ⟨by omega, by omega, ?_⟩
    have hB6 := e6.blk hB5 fun e => by have e : w2.heap.size = rb := e; omega
    refine (Hx.one (F := (· = w2.heap.size)) hB6).st 0 rfl (by rw [List.size_toArray, ints_len]; omega) (.inl rfl) fun w7 H7 => ?_
    have hB7 : Blk w7 w2.heap.size (ints (l.set (order.getD i 0) x)).toArray 108 := by
      have := H7.get 0 rfl
      rw [← ints_set]
      simpa using this
    have hz := E2.size
    refine ⟨hc + 4 - (i + 1), by omega, i + 1, l.set (order.getD i 0) x, q6, by rw [i64_id (by omega)]; rfl, by omega, rfl, by rw [List.length_set]; exact hl19, hB7, ?_, ?_, hres⟩
    · have hne1 : fb ≠ w2.heap.size := by omega
      exact ⟨H7.ext.blk H6.blk fun e => hne1 e, H6.rd.keep H7.ext fun e => by have e : rb = w2.heap.size := e; omega, H6.row.keep H7.ext fun j hj e => by have := H2.row.own_lt hj; have e : j = w2.heap.size := e; omega, H6.ne, H6.nf, H6.nr, H6.len, H6.big⟩
    · exact (E5.tr e6).trans H7.ext (fun _ h => h) fun j hj e => by have e : j = w2.heap.size := e; omega
  · have q1 : ¬ i < hc + 4 := by have q1 : ¬ (i : Int) < ((hc + 4 : Nat) : Int) := q1; omega
    have hi4 : i = hc + 4 := by omega
    subst hi4
    have hd0 : (order.take (hc + 4)).drop (hc + 4) = [] := List.drop_eq_nil_of_le (by rw [List.length_take]; omega)
    rw [hd0] at hres
    have hres : Except.ok (l, q) = R19 := hres
    rw [← hres] at hR
    dsimp only at hR
    rw [cut2]
    have hz2 := E2.size
    have hz5 := E5.size
    refine (c_new (IV.blk hB5 hl19.symm)).mono ?_
    rintro r e w6 ⟨rfl, e6, _, h6⟩
    have H6 := H5.keep e6
    have E6 := E5.tr (rdx e6)
    refine (c_mustT _ _ w6).mono ?_ ?_
    rotate_left
    · rintro v w6 ⟨rfl, h7, rfl⟩
      rw [if_pos h7] at hR
      exact ⟨_, hR.symm, rfl, (Mv.rd E6).ext⟩
    rintro r w6 ⟨h7, rfl, rfl⟩
    rw [if_neg (fun hh => hh h7)] at hR
    obtain ⟨tb, rfl, ht⟩ := h6 h7
    have hL6 := hL5.keep e6 fun j e => e.elim
    rw [i64_id (n := (hl : Int) + 257) (by omega), i64_id (n := (hd : Int) + 1) (by omega), i64_id (n := (hl : Int) + 257 + ((hd : Int) + 1)) (by omega), show (hl : Int) + 257 + ((hd : Int) + 1) = ((hl + 257 + (hd + 1) : Nat) : Int) by omega]
    have hz6 := e6.size
    refine (c_lengths H6 hs ht (chk_lok h7) hl19 (H5.sep (Nat.le_refl _) (Nat.le_refl _)) hL6 hN (by omega)).mono ?_ ?_
    rotate_left
    · rintro v w7 ⟨e, h8, rfl, e7⟩
      rw [h8] at hR
      exact ⟨e, hR.symm, rfl, (Mv.rd E6).er e7⟩
    rintro r w7 ⟨l2, q2, hlf, hv2, hcap2, hown2, H7, e7⟩
    rw [hlf] at hR
    dsimp only at hR
    obtain ⟨f1, f2, f3⟩ := lensF_ok _ _ _ H6.rd.1 (Nat.zero_le _) hlf
    have hnn := lensF_nn _ _ _ (fun x hx => by cases hx) hlf
    have E7 := E6.tr e7
    have hln := hv2.1
    obtain ⟨a, ha, hca⟩ := hv2.get (i := 256) (by omega)
    rw [ha]
    refine ⟨by omega, by omega, Nn.of (Ld.mk hca ?_)⟩
    have h256 : 0 ≤ l2.getD 256 0 := getD_in (P := fun x => 0 ≤ x) hnn (by omega)
    refine (c_need _ 13 _).mono ?_ ?_
    rotate_left
    · rintro v w7 ⟨rfl, h8, rfl⟩
      have h8 := of_decide_eq_false h8
      rw [if_pos (by omega)] at hR
      exact ⟨13, hR.symm, rfl, (Mv.rd E7).ext⟩
    rintro w7 ⟨h8, rfl⟩
    have h8 := of_decide_eq_true h8
    rw [if_neg (by omega)] at hR
    rw [show (hl : Int) + 257 = ((hl + 257 : Nat) : Int) by omega, Int.toNat_natCast]
    refine ⟨by omega, by omega, by omega, by omega, ?_⟩
    have hvt := (hv2.take (n := hl + 257) (by omega)).keep ((Ext.refl _ _).drew)
    have H7 := H7.keep (Ext.refl _ _).drew
    have E7 : Ext (· = rb) w w7.drew := E7.drew
    refine (c_new hvt).mono ?_
    rintro r2 e w8 ⟨rfl, e8, _, h9⟩
    refine (c_mustT _ _ w8).mono ?_ ?_
    rotate_left
    · rintro v w8 ⟨rfl, h10, rfl⟩
      rw [if_pos h10] at hR
      exact ⟨_, hR.symm, rfl, (Mv.rd (E7.tr (rdx e8))).ext⟩
    rintro r2 w8 ⟨h10, rfl, rfl⟩
    rw [if_neg (fun hh => hh h10)] at hR
    obtain ⟨t1, rfl, ht1⟩ := h9 h10
    have hvd := ((hv2.keep (Ext.refl _ _).drew).keep e8).drop hcap2 (d := hl + 257) (by omega)
    refine (c_new hvd.1).mono ?_
    rintro r3 e w9 ⟨rfl, e9, _, h11⟩
    refine (c_mustT _ _ w9).mono ?_ ?_
    rotate_left
    · rintro v w9 ⟨rfl, h12, rfl⟩
      rw [if_pos h12] at hR
      exact ⟨_, hR.symm, rfl, (Mv.rd ((E7.tr (rdx e8)).tr (rdx e9))).ext⟩
    rintro r3 w9 ⟨h12, rfl, rfl⟩
    rw [if_neg (fun hh => hh h12)] at hR
    obtain ⟨t2, rfl, ht2⟩ := h11 h12
    have z8 := e8.size
    have z9 := e9.size
    have H9 := (H7.keep e8).keep e9
    have hcd := c_coded H9 hs (ht1.no e9) (chk_lok h10) (H7.sep (Nat.le_refl _) (by omega)) ht2 (chk_lok h12) (H7.sep (by omega) (Nat.le_refl _))
    dsimp only at hR
    rw [hR] at hcd
    have E9 := (E7.tr (rdx e8)).tr (rdx e9)
    refine hcd.mono ?_ ?_
    · rintro w10 ⟨o1, out1, q10, g1, g2, g3⟩
      exact ⟨o1, out1, q10, g1, g2, (Mv.rd E9).tr g3⟩
    · rintro v w10 ⟨e, g1, g2, g3⟩
      exact ⟨e, g1, g2, (Mv.rd E9).er g3⟩
end
end Inf
end Go.Proofs.YtjkoafjnmkchdaaGreatDoor

/- Inflate: the program's block and All. Conditions: sizes, the laid variables. -/
namespace Go.Proofs.YtjkoafjnmkchdaaGreatDoor
namespace Inf
open Sh Bit
set_option linter.unusedVariables false
set_option linter.unusedSimpArgs false
set_option maxRecDepth 4000
set_option maxHeartbeats 2000000
def blkF (s : ByteArray) (most : Nat) (out : List UInt8) (p : Nat) : Except Int (Int × List UInt8 × Nat) := match num s p 1 with
  | .error e => .error e
  | .ok (last, p1) => match num s p1 2 with
    | .error e => .error e
    | .ok (kind, p2) => match block s most kind out p2 with
      | .error e => .error e
      | .ok (o, q) => .ok (last, o, q)
theorem blkF_ok {s : ByteArray} {most p q : Nat} {out o : List UInt8} {last : Int} (hm : out.length ≤ most) (h : blkF s most out p = .ok (last, o, q)) : p < q ∧ q ≤ 8 * s.size ∧ o.length ≤ most := by
  unfold blkF at h
  split at h
  · cases h
  · rename_i l p1 h1
    obtain ⟨a1, a2, a3, a4⟩ := num_bd h1
    split at h
    · cases h
    · rename_i k p2 h2
      obtain ⟨b1, b2, b3, b4⟩ := num_bd h2
      split at h
      · cases h
      · rename_i o2 q2 h3
        cases h
        obtain ⟨c1, c2, c3⟩ := block_ok b4 hm h3
        exact ⟨by omega, c2, c3⟩
theorem allF_blk (s : ByteArray) (most k : Nat) (out : List UInt8) (p : Nat) : allF s most (k + 1) out p = match blkF s most out p with
    | .error e => .error e
    | .ok (last, o, q) => if last = 1 then .ok (o, (q + 7) / 8) else allF s most k o q := by
  conv => lhs; unfold allF
  unfold blkF
  cases num s p 1 with
  | error e => rfl
  | ok x =>
    obtain ⟨last, p1⟩ := x
    dsimp only
    cases num s p1 2 with
    | error e => rfl
    | ok y =>
      obtain ⟨kind, p2⟩ := y
      dsimp only
      cases block s most kind out p2 with
      | error e => rfl
      | ok z => rfl
attribute [local irreducible] Ld St Nw Nn Lt LdS
section
variable {w : World} {fb rb N : Nat} {o : Slc} {s : ByteArray} {out : List UInt8} {p most : Nat}
theorem c_block (h : FS w fb rb o s out p most) (hs : s.size ≤ 1000000) (hL : Laid N w) (hN : Low N fb rb o) : C29 (some (⟨fb, 0, none⟩ : Addr)) w
    (fun b w1 => ∃ last o1 out1 q, blkF s most out p = .ok (last, out1, q) ∧ b = (last == 1) ∧ FS w1 fb rb o1 s out1 q most ∧ Mv fb rb w w1 o o1) (ErR fb rb w o (blkF s most out p)) := by
  refine T29 _ _ _ _ ?_
  unfold S29
  generalize hR : blkF s most out p = R0
  unfold blkF at hR
  refine (c_bits (n := 1) (by omega) h hs).mono ?_ ?_
  rotate_left
  · rintro v w1 ⟨hn, rfl, e1⟩
    rw [hn] at hR
    exact ⟨4, hR.symm, rfl, (Mv.rd e1).ext⟩
  rintro last w1 ⟨p1, hn1, H1, e1⟩
  rw [hn1] at hR
  dsimp only at hR
  refine (c_bits (n := 2) (by omega) H1 hs).mono ?_ ?_
  rotate_left
  · rintro v w2 ⟨hn, rfl, e2⟩
    rw [hn] at hR
    exact ⟨4, hR.symm, rfl, (Mv.rd (e1.tr e2)).ext⟩
  rintro kind w2 ⟨p2, hn2, H2, e2⟩
  rw [hn2] at hR
  dsimp only at hR
  obtain ⟨a0, a1, a2, a3⟩ := num_bd hn2
  have h4 : (2 : Int) ^ 2 = 4 := by decide
  have E2 := e1.tr e2
  have m2 : Mv fb rb w w2 o o := .rd E2
  have hL2 := hL.mv hN m2.ext
  have ok : ∀ {r : Except Int (List UInt8 × Nat)} {w3 : World}, block s most kind out p2 = r → OkR fb rb w2 o s most r w3 → ∃ l o1 out1 q, R0 = .ok (l, out1, q) ∧ (last == 1) = (l == 1) ∧ FS w3 fb rb o1 s out1 q most ∧ Mv fb rb w w3 o o1 := fun hb ⟨o1, out1, q, g1, g2, g3⟩ => by
    rw [hb, g1] at hR
    exact ⟨last, o1, out1, q, hR.symm, rfl, g2, m2.tr g3⟩
  have er : ∀ {r : Except Int (List UInt8 × Nat)} {v : Value} {w3 : World}, block s most kind out p2 = r → ErR fb rb w2 o r v w3 → ErR fb rb w o R0 v w3 := fun hb ⟨e, g1, g2, g3⟩ => by
    rw [hb, g1] at hR
    exact ⟨e, hR.symm, g2, m2.er g3⟩
  refine Br.eq (fun q0 => ?_) fun q0 => Br.eq (fun q1 => ?_) fun q1 => Br.eq (fun q2 => ?_) fun q2 => ?_
  · have hb : block s most kind out p2 = stored s p2 out most := by unfold block; rw [if_neg (by omega), if_pos q0]
    exact (c_stored H2 hs).mono (fun w3 g => ok hb g) fun v w3 g => er hb g
  · have hb : block s most kind out p2 = signsF s fixL fixD most (8 * s.size + 1) out p2 := by unfold block; rw [if_neg (by omega), if_neg q0, if_neg (by omega)]
    exact (c_fixed H2 hs).mono (fun w3 g => ok hb g) fun v w3 g => er hb g
  · have hb : block s most kind out p2 = dynR s most out p2 := by unfold block; rw [if_neg (by omega), if_neg q0, if_pos q2]; rfl
    exact (c_dynamic H2 hs hL2 hN).mono (fun w3 g => ok hb g) fun v w3 g => er hb g
  · have hb : block s most kind out p2 = .error 3 := by unfold block; rw [if_pos (by omega)]
    refine (c_need false 3 w2).mono (fun w3 g => absurd g.1 (by decide)) ?_
    rintro v w3 ⟨rfl, _, rfl⟩
    exact er hb ⟨3, rfl, rfl, Ext.refl _ _⟩
theorem c_d26 {w0 w : World} {b1 b2 b3 : Nat} {t1 t2 t3 : TypeId} {v1 v2 v3 : Value} (H : Hn w0 w [(b1, [v1], t1), (b2, [v2], t2), (b3, [v3], t3)]) (e : Int) :
    CD26 (⟨b1, 0, none⟩ : Addr) (⟨b2, 0, none⟩ : Addr) (⟨b3, 0, none⟩ : Addr) (some (gup e)) w fun w1 => Hn w0 w1 [(b1, [.string ⟨#[]⟩], t1), (b2, [.int .i64 0], t2), (b3, [.int .i64 e], t3)] := by
  refine T26_T51 _ _ _ _ _ _ ?_
  unfold S26_T51
  refine H.nw fun w2 H => ?_
  simp only [List.cons_append, List.nil_append] at H
  iterate 1 (refine H.st 3 rfl (by simp) fun _ H => ?_; simp only [List.nil_append, List.cons_append, List.set_cons_zero, List.set_cons_succ, Nat.zero_add] at H)
  have hne : ∀ b v t i, i < 3 → ([(b1, [v1], t1), (b2, [v2], t2), (b3, [v3], t3), (w.heap.size, [.int .i64 e], 51)] : List (Nat × List Value × TypeId))[i]? = some (b, v, t) → b ≠ w.heap.size := fun b v t i hi hg e => by
    have hn := H.h.nodup
    have := nodup_get hn (i := i) (j := 3) (x := w.heap.size) (by
      rw [arr_fst, List.getElem?_map, hg, Option.map_some, e]) rfl
    omega
  have n1 := hne b1 _ _ 0 (by omega) rfl
  have n2 := hne b2 _ _ 1 (by omega) rfl
  refine ⟨fun w' => Blk w' w.heap.size #[.int .i64 e] 51, (H.get 3 rfl).drew, LdS.of (fun w' h => h) (o := 0) (x := e) rfl ?_⟩
  have H := H.drew
  refine H.st' 0 rfl (by simp) fun w5 H he5 => ?_
  simp only [List.set_cons_zero, List.set_cons_succ] at H
  refine ⟨H.get 3 rfl, ?_⟩
  refine H.st' 1 rfl (by simp) fun w6 H he6 => ?_
  simp only [List.set_cons_zero, List.set_cons_succ] at H
  refine ⟨H.get 3 rfl, ?_⟩
  iterate 1 (refine H.st 2 rfl (by simp) fun _ H => ?_; simp only [List.nil_append, List.cons_append, List.set_cons_zero, List.set_cons_succ, Nat.zero_add] at H)
  exact H.left (L := [_, _, _]) (M := [_])
theorem c_All (hs : s.size ≤ 1000000) (hL : Laid N w) (m : Int) : C14 s m w fun d n e w1 => (d, n, e) = allR s m ∧ Ext (fun _ => False) w w1 := by
  refine T14 _ _ _ _ ?_
  unfold S14
  have hLL := hL
  obtain ⟨hN2, hNw, _⟩ := hL
  refine (Hn.start w).nw fun w2 H => H.nw fun w3 H => H.nw fun w4 H => ?_
  simp only [List.cons_append, List.nil_append] at H
  have bad : ∀ {w5 : World} {v1 v2 v3 : Value} {e : Int}, Hn w w5 [(w.heap.size, [v1], 9), (w2.heap.size, [v2], 3), (w3.heap.size, [v3], 23)] → (⟨#[]⟩, 0, e) = allR s m → S14P w w2 w3 (fun d n e w1 => (d, n, e) = allR s m ∧ Ext (fun _ => False) w w1) (gup e) w5 := fun {w5 v1 v2 v3 e} H hn => by
    unfold S14P
    refine (c_d26 H e).mono fun w6 H => ?_
    refine H.ld 0 rfl rfl (H.ld 1 rfl rfl (H.ld 2 rfl rfl ⟨hn, H.ext⟩))
  refine (c_need _ 1 _).mono ?_ ?_
  rotate_left
  · rintro v w4 ⟨rfl, h1, rfl⟩
    have h1 := of_decide_eq_false h1
    refine bad H ?_
    unfold allR
    rw [if_pos (by omega)]
  rintro w4 ⟨h1, rfl⟩
  have h1 := of_decide_eq_true h1
  have z1 := H.size
  have z4 : w.heap.size < w4.heap.size ∧ w2.heap.size < w4.heap.size ∧ w3.heap.size < w4.heap.size := ⟨H.lt 0 rfl, H.lt 1 rfl, H.lt 2 rfl⟩
  refine (c_from w4 s).mono ?_
  rintro r w5 ⟨rfl, hr5, e5⟩
  have H := H.keep e5
  have zz : w.heap.size < w5.heap.size ∧ w2.heap.size < w5.heap.size ∧ w3.heap.size < w5.heap.size := ⟨H.lt 0 rfl, H.lt 1 rfl, H.lt 2 rfl⟩
  have zrb := Blk.lt hr5
  have ge1 := H.ge 1 rfl
  have ge2 := H.ge 2 rfl
  have hw5 := H.size
  refine H.nw' fun w6 H6 e6 => ?_
  simp only [List.cons_append, List.nil_append] at H6
  have z6 := H6.lt 3 rfl
  have hmost : (if 1048576 < m then (1048576 : Int) else m) = (((min m 1048576).toNat : Nat) : Int) := by
    split <;> omega
  have hmb : (min m 1048576).toNat ≤ 1048576 := by omega
  have hall : allR s m = match allF s (min m 1048576).toNat (8 * s.size + 1) [] 0 with
      | .error e => (⟨#[]⟩, 0, e)
      | .ok (o, n) => (⟨o.toArray⟩, (n : Int), 0) := by
    unfold allR
    rw [if_neg (by omega)]
    cases allF s (min m 1048576).toNat (8 * s.size + 1) [] 0 <;> rfl
  generalize (min m 1048576).toNat = mm at *
  have nown : ∀ j, ¬ (⟨none, 0, 0⟩ : Slc).own j := fun j hj => by obtain ⟨a, ha, _⟩ := hj; cases ha
  have F6 : FS w6 w5.heap.size w4.heap.size ⟨none, 0, 0⟩ s [] 0 mm := by
    refine ⟨?_, ⟨Nat.zero_le _, 0, .inl rfl, e6.blk hr5 fun h => h⟩, BRow.nil _, by omega, nown _, nown _, Nat.zero_le _, hmb⟩
    have := H6.get 3 rfl
    rw [hmost] at this
    exact this
  have HH := H6.left (L := [_, _, _]) (M := [_])
  have hL6 : Laid N w6 := by
    refine Laid.keep (w := w) (F := fun _ => False) ?_ H6.ext fun j h => h.elim
    exact hLL
  have hN6 : Low N w5.heap.size w4.heap.size ⟨none, 0, 0⟩ := ⟨by omega, by omega, fun j hj => absurd hj (nown j)⟩
  generalize hRR : allF s mm (8 * s.size + 1) [] 0 = R0 at hall
  refine ⟨fun n st w7 => ∃ out1 o1 q, FS w7 w5.heap.size w4.heap.size o1 s out1 q mm ∧ Mv w5.heap.size w4.heap.size w6 w7 ⟨none, 0, 0⟩ o1 ∧ 8 * s.size < q + n ∧ allF s mm n out1 q = R0, 8 * s.size + 1, ⟨[], ⟨none, 0, 0⟩, 0, F6, .refl, by omega, hRR⟩, ?_⟩
  rintro n st w7 ⟨out1, o1, q, F7, m7, hfu, hres⟩
  unfold S14L1
  have hq7 := F7.rd.1
  obtain ⟨n, rfl⟩ : ∃ n', n = n' + 1 := ⟨n - 1, by omega⟩
  rw [allF_blk] at hres
  have hXF : ∀ {w8 : World} {o8 : Slc}, Mv w5.heap.size w4.heap.size w6 w8 ⟨none, 0, 0⟩ o8 → Hn w w8 [(w.heap.size, [.string ⟨#[]⟩], 9), (w2.heap.size, [.int .i64 0], 3), (w3.heap.size, [.int .i64 0], 23)] := fun {w8 o8} mv => HH.other mv.ext fun j hj => by
    rcases hj with e | e | e
    · refine ⟨by omega, ?_⟩
      simp only [List.map_cons, List.map_nil, List.mem_cons, List.not_mem_nil, or_false]
      omega
    · refine ⟨by omega, ?_⟩
      simp only [List.map_cons, List.map_nil, List.mem_cons, List.not_mem_nil, or_false]
      omega
    · exact absurd e (nown j)
  have hNw6 := H6.size
  refine (c_block F7 hs (hL6.mv hN6 m7.ext) (hN6.mv m7 (by omega))).mono ?_ ?_
  rotate_left
  · rintro v w8 ⟨e, hb, rfl, hx⟩
    rw [hb] at hres
    refine bad (hXF (m7.tr (.of hx))) ?_
    rw [hall, ← hres]
  rintro b w8 ⟨last, o2, out2, q2, hb, rfl, F8, m8⟩
  rw [hb] at hres
  dsimp only at hres
  obtain ⟨c1, c2, c3⟩ := blkF_ok F7.len hb
  have M8 := m7.tr m8
  by_cases hlast : last = 1
  · subst hlast
    rw [if_pos rfl] at hres
    refine Br.f rfl ?_
    have H := (hXF M8).drew
    have F8 := F8.keep (Ext.refl _ _).drew
    obtain ⟨hp8, way8, hw8, hrd8⟩ := F8.rd
    have hfin : (⟨out2.toArray⟩, (((q2 + 7) / 8 : Nat) : Int), 0) = allR s m := by rw [hall, ← hres]
    have hst := str_row F8.row
    refine ⟨fun w' => Blk w' w5.heap.size (fcells w4.heap.size o2 mm) 57, F8.blk, Nn.of ?_⟩
    simp only [add_lit, Nat.zero_add]
    refine LdS.of (fun w' h => h) (o := 1) (x := o2) rfl (Nn.of (LdS.of (fun w' h => h) (o := 0) (x := at0 w4.heap.size) rfl ⟨⟨_, _, hst, F8.blk, ?_⟩, ?_⟩))
    · refine (c_at hrd8 hp8 hs).mono ?_
      rintro x w9 ⟨rfl, rfl⟩
      refine ⟨F8.blk, ?_⟩
      iterate 1 (refine H.st 0 rfl (by simp) fun _ H => ?_; simp only [List.nil_append, List.cons_append, List.set_cons_zero, List.set_cons_succ, Nat.zero_add] at H)
      iterate 1 (refine H.st 1 rfl (by simp) fun _ H => ?_; simp only [List.nil_append, List.cons_append, List.set_cons_zero, List.set_cons_succ, Nat.zero_add] at H)
      iterate 1 (refine H.st 2 rfl (by simp) fun _ H => ?_; simp only [List.nil_append, List.cons_append, List.set_cons_zero, List.set_cons_succ, Nat.zero_add] at H)
      refine T26_nil _ _ _ _ _ ?_
      unfold S26_nil
      iterate 1 refine H.ld 0 rfl rfl ?_
      iterate 1 refine H.ld 1 rfl rfl ?_
      iterate 1 refine H.ld 2 rfl rfl ?_
      exact ⟨hfin, H.ext⟩
    · refine (c_at hrd8 hp8 hs).mono ?_
      rintro x w9 ⟨rfl, rfl⟩
      refine ⟨F8.blk, _, _, hst, F8.blk, ?_⟩
      iterate 1 (refine H.st 0 rfl (by simp) fun _ H => ?_; simp only [List.nil_append, List.cons_append, List.set_cons_zero, List.set_cons_succ, Nat.zero_add] at H)
      iterate 1 (refine H.st 1 rfl (by simp) fun _ H => ?_; simp only [List.nil_append, List.cons_append, List.set_cons_zero, List.set_cons_succ, Nat.zero_add] at H)
      iterate 1 (refine H.st 2 rfl (by simp) fun _ H => ?_; simp only [List.nil_append, List.cons_append, List.set_cons_zero, List.set_cons_succ, Nat.zero_add] at H)
      refine T26_nil _ _ _ _ _ ?_
      unfold S26_nil
      iterate 1 refine H.ld 0 rfl rfl ?_
      iterate 1 refine H.ld 1 rfl rfl ?_
      iterate 1 refine H.ld 2 rfl rfl ?_
      exact ⟨hfin, H.ext⟩
  · rw [if_neg hlast] at hres
    refine Br.t (by simp [hlast]) ?_
    exact ⟨n, by omega, out2, o2, q2, F8, M8, by omega, hres⟩
end
end Inf
end Go.Proofs.YtjkoafjnmkchdaaGreatDoor

/- Inflate: the reference's number, stored, copied, signs, Fixed. Conditions: sizes. -/
namespace Go.Proofs.YtjkoafjnmkchdaaGreatDoor
namespace Inf
open Sh Bit
set_option linter.unusedVariables false
set_option linter.unusedSimpArgs false
set_option maxRecDepth 4000
set_option maxHeartbeats 2000000
/-- What a step of the reference answers. -/
def OutE (r : Except Int (List UInt8 × Nat)) (w w1 : World) (o x : Slc) (q e : Int) : Prop :=
  (∃ out1 q1, r = .ok (out1, q1) ∧ e = 0 ∧ q = ((q1 : Nat) : Int) ∧ BRow w1 x out1 ∧ Ext o.own w w1 ∧ ∀ j, x.own j → o.own j ∨ w.heap.size ≤ j) ∨
  ∃ y : Int, r = .error y ∧ e = y ∧ y ≠ 0 ∧ Ext o.own w w1
theorem no_own {w w1 : World} {o : Slc} (h : Ext (fun _ => False) w w1) : Ext o.own w w1 := h.mono fun _ _ e => e.elim
theorem OutE.pre {r : Except Int (List UInt8 × Nat)} {w w1 w2 : World} {o x : Slc} {q e : Int} (h : OutE r w1 w2 o x q e) (he : Ext (fun _ => False) w w1) : OutE r w w2 o x q e := by
  have := he.size
  rcases h with ⟨a, b, h1, h2, h3, h4, h5, h6⟩ | ⟨y, h1, h2, h3, h4⟩
  · exact .inl ⟨a, b, h1, h2, h3, h4, (no_own he).tr h5, fun j hj => by rcases h6 j hj with e | e; exact .inl e; exact .inr (by omega)⟩
  · exact .inr ⟨y, h1, h2, h3, (no_own he).tr h4⟩
attribute [local irreducible] Ld St Nw Nn Lt LdS
section
variable {w : World} {o : Slc} {s : ByteArray} {out : List UInt8} {p most : Nat}
/-- A list of lengths that the output does not touch. -/
def Dis (w : World) (a o : Slc) : Prop := ∀ j, a.own j → ¬ o.own j ∧ j < w.heap.size
theorem Dis.mv {w w1 : World} {a o o1 : Slc} (h : Dis w a o) (he : Ext o.own w w1) (ho : ∀ j, o1.own j → o.own j ∨ w.heap.size ≤ j) : Dis w1 a o1 := fun j hj => by
  obtain ⟨h1, h2⟩ := h j hj
  have := he.size
  refine ⟨fun e => ?_, by omega⟩
  rcases ho j e with e | e
  · exact h1 e
  · omega
end
end Inf
end Go.Proofs.YtjkoafjnmkchdaaGreatDoor

/- Inflate: the reference's Fixed, lengths, block, All. Conditions: sizes. -/
namespace Go.Proofs.YtjkoafjnmkchdaaGreatDoor
namespace Inf
open Sh Bit
set_option linter.unusedVariables false
set_option linter.unusedSimpArgs false
set_option maxRecDepth 4000
set_option maxHeartbeats 2000000
attribute [local irreducible] Ld St Nw Nn Lt LdS
section
variable {w : World} {o : Slc} {s : ByteArray} {out : List UInt8} {p most : Nat}
end
end Inf
end Go.Proofs.YtjkoafjnmkchdaaGreatDoor

/- Inflate: the reference's lengths, block, All. Conditions: sizes. -/
namespace Go.Proofs.YtjkoafjnmkchdaaGreatDoor
namespace Inf
open Sh Bit
set_option linter.unusedVariables false
set_option linter.unusedSimpArgs false
set_option maxRecDepth 4000
set_option maxHeartbeats 2000000
attribute [local irreducible] Ld St Nw Nn Lt LdS
section
variable {w : World} {o : Slc} {s : ByteArray} {out : List UInt8} {p most : Nat}
end
end Inf
end Go.Proofs.YtjkoafjnmkchdaaGreatDoor

/- No laws here. -/

/- Inflate: lives; InflateTells and InflateCovers: the walks. Conditions: the laid variables. -/
namespace Go.Proofs.YtjkoafjnmkchdaaGreatDoor
namespace Inf
open Sh Bit
set_option linter.unusedVariables false
set_option linter.unusedSimpArgs false
set_option maxRecDepth 100000
set_option maxHeartbeats 2000000
attribute [local irreducible] Ld St Nw Nn Lt LdS
section
variable {w : World} {N : Nat}
theorem Laid.no {N : Nat} {w w' : World} (h : Laid N w) (he : Ext (fun _ => False) w w') : Laid N w' := h.keep he fun _ e => e.elim
end
end Inf
end Go.Proofs.YtjkoafjnmkchdaaGreatDoor
