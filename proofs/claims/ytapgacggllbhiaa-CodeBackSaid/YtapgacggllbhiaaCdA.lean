/- Codes: costs, lists compared, the reference's codes and counts. Conditions: sizes. -/
import Derived.Test.YtapgacggllbhiaaPmD
import Derived.Test.YtapgacggllbhiaaInF
namespace Go.Proofs.Ytapgacggllbhiaa
namespace Cd
open Sh Pm Inf Bit
set_option linter.unusedVariables false
set_option linter.unusedSimpArgs false
set_option maxRecDepth 4000
set_option maxHeartbeats 4000000
theorem pair_eq {α β : Type} {a c : α} {b d : β} (h : a = c) (k : b = d) : (a, b) = (c, d) := by rw [h, k]
theorem cost_step {l c : Int} (hl : 0 ≤ l ∧ l ≤ 15) (hc : 0 ≤ c ∧ c ≤ 2147483647) : 0 ≤ l * c ∧ l * c ≤ 32212254705 := by
  constructor
  · exact Int.mul_nonneg hl.1 hc.1
  · have h1 : l * c ≤ 15 * c := Int.mul_le_mul_of_nonneg_right hl.2 hc.1
    omega
theorem costF_bd (l c : List Int) : ∀ i, 0 ≤ costF l c i ∧ costF l c i ≤ i * 32212254705
  | 0 => ⟨Int.le_refl _, Int.le_refl _⟩
  | i + 1 => by
    have ih := costF_bd l c i
    simp only [costF]
    split
    · rename_i h
      have := cost_step ⟨h.1, h.2.1⟩ h.2.2
      omega
    · omega
theorem costF_yes {l c : List Int} {i : Nat} (h : 0 ≤ l.getD i 0 ∧ l.getD i 0 ≤ 15 ∧ 0 ≤ c.getD i 0 ∧ c.getD i 0 ≤ 2147483647) : costF l c (i + 1) = costF l c i + l.getD i 0 * c.getD i 0 := if_pos h
theorem costF_no {l c : List Int} {i : Nat} (h : ¬ (0 ≤ l.getD i 0 ∧ l.getD i 0 ≤ 15 ∧ 0 ≤ c.getD i 0 ∧ c.getD i 0 ≤ 2147483647)) : costF l c (i + 1) = costF l c i := if_neg h
attribute [local irreducible] Ld St Nw Nn Lt LdS
section
variable {w w1 : World} {s s2 : Slc} {l c : List Int}
theorem c_cost (h : IV w s l) (k : IV w s2 c) (hl : l.length ≤ 1000) : C15 s s2 w fun r w1 => r = costF l c (min l.length c.length) ∧ Ext (fun _ => False) w w1 := by
  refine T15 _ _ _ _ ?_
  unfold S15
  have h1 := h.1
  have k1 := k.1
  refine Lt.of ?_
  have e : (if ((s2.len : Nat) : Int) < ((s.len : Nat) : Int) then ((s2.len : Nat) : Int) else ((s.len : Nat) : Int)) = ((min l.length c.length : Nat) : Int) := by
    split <;> omega
  rw [e]
  refine ⟨fun n st w1 => ∃ i : Nat, st = (costF l c i, (i : Int)) ∧ i ≤ min l.length c.length ∧ n = min l.length c.length - i ∧ Ext (fun _ => False) w w1, min l.length c.length, ⟨0, rfl, by omega, rfl, Ext.refl _ _⟩, ?_⟩
  rintro n st w1 ⟨i, rfl, hi, rfl, e1⟩
  unfold S15L1
  dsimp only
  rw [h1, k1]
  refine Br.dec (fun q => ?_) fun q => ⟨by rw [show i = min l.length c.length by omega], e1⟩
  obtain ⟨a, ha, hc⟩ := (h.keep e1).get (i := i) (by omega)
  obtain ⟨a2, ha2, hc2⟩ := (k.keep e1).get (i := i) (by omega)
  have b0 := costF_bd l c i
  rw [ha, ha2, Int.toNat_natCast, i64_id (n := (i : Int) + 1) (by omega)]
  have no : (¬ (0 ≤ l.getD i 0 ∧ l.getD i 0 ≤ 15 ∧ 0 ≤ c.getD i 0 ∧ c.getD i 0 ≤ 2147483647)) → ∃ n', n' < min l.length c.length - i ∧ ∃ i' : Nat, (costF l c i, (i : Int) + 1) = (costF l c i', (i' : Int)) ∧ i' ≤ min l.length c.length ∧ n' = min l.length c.length - i' ∧ Ext (fun _ => False) w w1 := fun hh =>
    ⟨min l.length c.length - (i + 1), by omega, i + 1, by rw [costF_no hh]; rfl, by omega, rfl, e1⟩
  refine ⟨by omega, by omega, Nn.of (Ld.mk hc (Br.dec (fun q2 => ⟨by omega, by omega, Nn.of (Ld.mk hc (Br.dec (fun q3 => ⟨by omega, by omega, Nn.of (Ld.mk hc2 (Br.dec (fun q4 => ⟨by omega, by omega, Nn.of (Ld.mk hc2 (Br.dec (fun q5 => ?_) fun q5 => no (by omega)))⟩) fun q4 => no (by omega)))⟩) fun q3 => no (by omega)))⟩) fun q2 => no (by omega)))⟩
  have hcd := Ext.cell_same (Ext.refl (fun _ => False) w1).drew hc
  have hcd2 := Ext.cell_same (Ext.refl (fun _ => False) w1).drew hc2
  have b1 := cost_step ⟨q2, q3⟩ ⟨q4, q5⟩
  refine ⟨by omega, by omega, Nn.of (Ld.mk hcd ⟨by omega, by omega, Nn.of (Ld.mk hcd2 ?_)⟩)⟩
  rw [i64_id (n := l.getD i 0 * c.getD i 0) (by omega), i64_id (by omega)]
  exact ⟨min l.length c.length - (i + 1), by omega, i + 1, by rw [costF_yes ⟨q2, q3, q4, q5⟩]; rfl, by omega, rfl, e1.drew⟩
theorem r_cost (h : IV w s l) (k : IV w s2 c) (hl : l.length ≤ 1000) : C16 s s2 w fun r w1 => r = costF l c (min l.length c.length) ∧ Ext (fun _ => False) w w1 := by
  refine T16 _ _ _ _ ?_
  unfold S16
  have h1 := h.1
  have k1 := k.1
  refine ⟨fun n st w1 => ∃ i : Nat, st = (costF l c i, (i : Int)) ∧ i ≤ min l.length c.length ∧ n = min l.length c.length - i ∧ Ext (fun _ => False) w w1, min l.length c.length, ⟨0, rfl, by omega, rfl, Ext.refl _ _⟩, ?_⟩
  rintro n st w1 ⟨i, rfl, hi, rfl, e1⟩
  unfold S16L1
  dsimp only
  rw [h1, k1]
  refine Br.dec (fun q => Br.dec (fun q1 => ?_) fun q1 => ⟨by rw [show i = min l.length c.length by omega], e1⟩) fun q => ⟨by rw [show i = min l.length c.length by omega], e1⟩
  obtain ⟨a, ha, hc⟩ := (h.keep e1).get (i := i) (by omega)
  obtain ⟨a2, ha2, hc2⟩ := (k.keep e1).get (i := i) (by omega)
  have b0 := costF_bd l c i
  rw [ha, ha2, Int.toNat_natCast, i64_id (n := (i : Int) + 1) (by omega)]
  have no : (¬ (0 ≤ l.getD i 0 ∧ l.getD i 0 ≤ 15 ∧ 0 ≤ c.getD i 0 ∧ c.getD i 0 ≤ 2147483647)) → ∃ n', n' < min l.length c.length - i ∧ ∃ i' : Nat, (costF l c i, (i : Int) + 1) = (costF l c i', (i' : Int)) ∧ i' ≤ min l.length c.length ∧ n' = min l.length c.length - i' ∧ Ext (fun _ => False) w w1 := fun hh =>
    ⟨min l.length c.length - (i + 1), by omega, i + 1, by rw [costF_no hh]; rfl, by omega, rfl, e1⟩
  refine ⟨by omega, by omega, Nn.of (Ld.mk hc (Br.dec (fun q2 => ⟨by omega, by omega, Nn.of (Ld.mk hc (Br.dec (fun q3 => ⟨by omega, by omega, Nn.of (Ld.mk hc2 (Br.dec (fun q4 => ⟨by omega, by omega, Nn.of (Ld.mk hc2 (Br.dec (fun q5 => ?_) fun q5 => no (by omega)))⟩) fun q4 => no (by omega)))⟩) fun q3 => no (by omega)))⟩) fun q2 => no (by omega)))⟩
  have hcd := Ext.cell_same (Ext.refl (fun _ => False) w1).drew hc
  have hcd2 := Ext.cell_same (Ext.refl (fun _ => False) w1).drew hc2
  have b1 := cost_step ⟨q2, q3⟩ ⟨q4, q5⟩
  refine ⟨by omega, by omega, Nn.of (Ld.mk hcd ⟨by omega, by omega, Nn.of (Ld.mk hcd2 ?_)⟩)⟩
  rw [i64_id (n := l.getD i 0 * c.getD i 0) (by omega), i64_id (by omega)]
  exact ⟨min l.length c.length - (i + 1), by omega, i + 1, by rw [costF_yes ⟨q2, q3, q4, q5⟩]; rfl, by omega, rfl, e1.drew⟩
/-- Equal lists are the same. -/
theorem r_same (h : IV w s l) (k : IV w s2 l) (hl : l.length ≤ 1000000) : C12 s s2 w fun r w1 => r = true ∧ Ext (fun _ => False) w w1 := by
  refine T12 _ _ _ _ ?_
  unfold S12
  have h1 := h.1
  have k1 := k.1
  refine Br.ne (fun q => by omega) fun q => ?_
  refine ⟨fun n st w1 => ∃ i : Nat, st = (i : Int) ∧ i ≤ l.length ∧ n = l.length - i ∧ Ext (fun _ => False) w w1, l.length, ⟨0, rfl, by omega, rfl, Ext.refl _ _⟩, ?_⟩
  rintro n st w1 ⟨i, rfl, hi, rfl, e1⟩
  unfold S12L1
  rw [h1, k1]
  refine Br.dec (fun q => Br.dec (fun q1 => ?_) fun q1 => ⟨rfl, e1⟩) fun q => ⟨rfl, e1⟩
  obtain ⟨a, ha, hc⟩ := (h.keep e1.drew).get (i := i) (by omega)
  obtain ⟨a2, ha2, hc2⟩ := (k.keep e1.drew).get (i := i) (by omega)
  rw [ha, ha2, Int.toNat_natCast, i64_id (n := (i : Int) + 1) (by omega)]
  exact ⟨by omega, by omega, Nn.of (Ld.mk hc ⟨by omega, by omega, Nn.of (Ld.mk hc2 (Br.ne (fun q2 => absurd rfl q2) fun q2 => ⟨l.length - (i + 1), by omega, i + 1, rfl, by omega, rfl, e1.drew⟩))⟩)⟩
/-! ### The reference's codes -/
/-- The codes of the lengths below b, and of length b among the first i. -/
def part (lens : List Int) (b i j : Nat) : Int := if 0 < lens.getD j 0 ∧ (lens.getD j 0 < (b : Int) ∨ (lens.getD j 0 = (b : Int) ∧ j < i)) then codeL lens j else 0
def partL (lens : List Int) (b i : Nat) : List Int := (List.range lens.length).map (part lens b i)
theorem partL_len (lens : List Int) (b i : Nat) : (partL lens b i).length = lens.length := by unfold partL; simp
theorem partL_set {lens : List Int} {b i : Nat} (hi : i < lens.length) (h : lens.getD i 0 = (b : Int)) (hb : 0 < b) : (partL lens b i).set i (codeL lens i) = partL lens b (i + 1) := by
  apply List.ext_getElem?
  intro j
  unfold partL
  rw [List.getElem?_set, List.length_map, List.length_range, List.getElem?_map, List.getElem?_map]
  by_cases e : i = j
  · subst e
    rw [if_pos rfl, if_pos hi, List.getElem?_range hi]
    simp only [Option.map_some]
    unfold part
    rw [if_pos ⟨by omega, .inr ⟨h, by omega⟩⟩]
  · rw [if_neg e]
    by_cases hj : j < lens.length
    · rw [List.getElem?_range hj]
      simp only [Option.map_some]
      unfold part
      congr 1
      by_cases c1 : 0 < lens.getD j 0 ∧ (lens.getD j 0 < (b : Int) ∨ (lens.getD j 0 = (b : Int) ∧ j < i))
      · rw [if_pos c1, if_pos (by omega)]
      · rw [if_neg c1, if_neg (by omega)]
    · rw [List.getElem?_eq_none (by rw [List.length_range]; omega)]
      rfl
theorem partL_congr {lens : List Int} {b i b' i' : Nat} (h : ∀ j, j < lens.length → ((0 < lens.getD j 0 ∧ (lens.getD j 0 < (b : Int) ∨ (lens.getD j 0 = (b : Int) ∧ j < i))) ↔ (0 < lens.getD j 0 ∧ (lens.getD j 0 < (b' : Int) ∨ (lens.getD j 0 = (b' : Int) ∧ j < i'))))) : partL lens b i = partL lens b' i' := by
  unfold partL
  refine List.map_congr_left fun j hj => ?_
  have := h j (List.mem_range.1 hj)
  unfold part
  by_cases c1 : 0 < lens.getD j 0 ∧ (lens.getD j 0 < (b : Int) ∨ (lens.getD j 0 = (b : Int) ∧ j < i))
  · rw [if_pos c1, if_pos (this.1 c1)]
  · rw [if_neg c1, if_neg fun hh => c1 (this.2 hh)]
theorem partL_zero (lens : List Int) : partL lens 1 0 = List.replicate lens.length 0 := by
  unfold partL
  apply List.ext_getElem?
  intro j
  rw [List.getElem?_map]
  by_cases hj : j < lens.length
  · rw [List.getElem?_range hj, List.getElem?_replicate, if_pos hj]
    simp only [Option.map_some]
    unfold part
    rw [if_neg (by omega)]
  · rw [List.getElem?_eq_none (by rw [List.length_range]; omega), List.getElem?_replicate, if_neg hj]
    rfl
theorem partL_end {lens : List Int} (hk : Lok lens) : partL lens 16 0 = codes lens := by
  unfold partL codes
  refine List.map_congr_left fun j hj => ?_
  have := hk.nn j
  unfold part
  by_cases h0 : 0 < lens.getD j 0
  · rw [if_pos (by omega)]
  · rw [if_neg (by omega)]
    unfold codeL
    rw [if_neg h0]
theorem r_codes (h : IV w s l) : C10 s w fun r e w1 => e = chk l ∧ Ext (fun _ => False) w w1 ∧ (chk l ≠ 0 → r.len = 0 ∧ IV w1 r []) ∧ (chk l = 0 → IV w1 r (codes l)) := by
  refine T10 _ _ _ ?_
  unfold S10
  refine (r_chk h).mono ?_
  rintro r w ⟨rfl, rfl⟩
  refine Br.ne (fun q => ⟨rfl, Ext.refl _ _, fun _ => ⟨rfl, IV.nil _⟩, fun hh => absurd hh q⟩) fun q => ?_
  have hk := chk_lok q
  have hlen := hk.len
  rw [h.1]
  obtain ⟨w2, hrun, hw2⟩ := elI.make (zs := [.int .i64 0]) rfl w l.length (by omega) (by omega)
  refine ⟨_, w2, hrun, ?_⟩
  have H : Hn w w2 [(w.heap.size, ints (partL l 1 0), 3)] := by
    rw [partL_zero, ← flat_zero, hw2]
    exact ((Hn.start w).keep ((Ext.refl _ _).alloc _)).push (Blk.new _ _ _) (Nat.le_refl _) (by simp)
  refine ⟨fun n st w3 => ∃ b : Nat, st = (fs (cn l) b, (b : Int)) ∧ 1 ≤ b ∧ b ≤ 16 ∧ n = 16 - b ∧ Hn w w3 [(w.heap.size, ints (partL l b 0), 3)], 15, ⟨1, rfl, by omega, by omega, rfl, H⟩, ?_⟩
  clear H hrun hw2
  rintro n st w3 ⟨b, rfl, hb1, hb16, rfl, H⟩
  unfold S10L2
  dsimp only
  refine Br.dec (fun q1 => ?_) fun q1 => ?_
  · refine ⟨fun n st w4 => ∃ i : Nat, st = (fs (cn l) b + (cntT l b i : Int), (i : Int)) ∧ i ≤ l.length ∧ n = l.length - i ∧ Hn w w4 [(w.heap.size, ints (partL l b i), 3)], l.length, ⟨0, by show _ = (fs (cn l) b + ((0 : Nat) : Int), _); simp, by omega, rfl, H⟩, ?_⟩
    clear H
    rintro n st w4 ⟨i, rfl, hi, rfl, H⟩
    unfold S10L1
    dsimp only
    rw [h.1]
    have hfb := fs_bd (fun n => cn_bd hlen n) b
    have hp := two_pow_le (show b ≤ 15 by omega)
    have h15 : (2 : Int) ^ 15 = 32768 := by decide
    have hct := cntT_le l b i
    refine Br.dec (fun q2 => ⟨by omega, by omega, ?_⟩) fun q2 => ?_
    · have hlt : i < l.length := by omega
      obtain ⟨a, ha, hc⟩ := (h.keep H.ext).get hlt
      rw [ha, Int.toNat_natCast, i64_id (n := (i : Int) + 1) (by omega)]
      have hs := cntT_succ l b i
      refine Nn.of (Ld.mk hc (Br.eq (fun q3 => ⟨by omega, by omega, Nn.of ?_⟩) fun q3 => ?_))
      · rw [if_pos q3] at hs
        have hcode : fs (cn l) b + (cntT l b i : Int) = codeL l i := by
          unfold codeL
          rw [if_pos (by omega), q3, Int.toNat_natCast]
        simp only [add_lit, Nat.mul_one, Nat.zero_add]
        rw [i64_id (n := fs (cn l) b + (cntT l b i : Int) + 1) (by omega)]
        refine H.st 0 rfl (by rw [ints_len, partL_len]; omega) fun w5 H => ?_
        simp only [List.set_cons_zero] at H
        rw [hcode, ints_set, partL_set hlt q3 (by omega)] at H
        exact ⟨l.length - (i + 1), by omega, i + 1, pair_eq (by omega) rfl, by omega, rfl, H⟩
      · rw [if_neg q3] at hs
        refine ⟨l.length - (i + 1), by omega, i + 1, pair_eq (by rw [hs]) rfl, by omega, rfl, ?_⟩
        rw [partL_congr (b' := b) (i' := i) fun j hj => ?_]
        · exact H
        · by_cases e : j = i
          · subst e; omega
          · omega
    · have : i = l.length := by omega
      subst this
      have hcn : cn l b = (cntT l b l.length : Int) := by unfold cn; rw [if_neg (by omega)]; rfl
      rw [i64_id (n := 2 * (fs (cn l) b + (cntT l b l.length : Int))) (by omega), i64_id (n := (b : Int) + 1) (by omega)]
      refine ⟨16 - (b + 1), by omega, b + 1, pair_eq ?_ rfl, by omega, by omega, rfl, ?_⟩
      · rw [← hcn]
        obtain ⟨x, rfl⟩ : ∃ x, b = x + 1 := ⟨b - 1, by omega⟩
        rfl
      · rw [partL_congr (b' := b) (i' := l.length) fun j hj => by omega]
        exact H
  · have : b = 16 := by omega
    subst this
    refine ⟨q.symm, H.ext, fun hh => absurd q hh, fun _ => ?_⟩
    rw [partL_end hk] at H
    exact IV.blk (H.get 0 rfl) (by unfold codes; simp)
/-! ### The reference's counts -/
theorem posT (c : List Int) : ∀ i, i ≤ c.length → ((c.take i).filter fun x => decide (0 < x)).length ≤ i := fun i hi => by
  have h1 := List.length_filter_le (fun x : Int => decide (0 < x)) (c.take i)
  rw [List.length_take] at h1
  omega
theorem pos_step {c : List Int} {i : Nat} (hi : i < c.length) : (c.take (i + 1)).filter (fun x => decide (0 < x)) = (c.take i).filter (fun x => decide (0 < x)) ++ if 0 < c.getD i 0 then [c.getD i 0] else [] := by
  have ht : c.take (i + 1) = c.take i ++ [c.getD i 0] := by
    rw [List.take_add_one, List.getElem?_eq_getElem hi, List.getD_eq_getElem?_getD, List.getElem?_eq_getElem hi]
    rfl
  rw [ht, List.filter_append]
  congr 1
  by_cases h : 0 < c.getD i 0
  · rw [if_pos h, List.filter_cons_of_pos (p := fun x : Int => decide (0 < x)) (decide_eq_true h)]
    rfl
  · rw [if_neg h, List.filter_cons_of_neg (p := fun x : Int => decide (0 < x)) (by simpa only [decide_eq_true_eq] using h)]
    rfl
theorem r_counts {most : Int} (h : IV w s c) : C18 s most w fun r w1 => r = why c most ∧ w1 = w := by
  refine T18 _ _ _ _ ?_
  unfold S18
  have h1 := h.1
  refine Br.dec (fun q => ?_) fun q => Br.dec (fun q2 => ?_) fun q2 => Br.dec (fun q3 => ?_) fun q3 => ?_
  · exact ⟨by unfold why; rw [if_pos (by omega)], rfl⟩
  · exact ⟨by unfold why; rw [if_neg (by omega), if_pos (.inl q2)], rfl⟩
  · exact ⟨by unfold why; rw [if_neg (by omega), if_pos (.inr q3)], rfl⟩
  have hm : 1 ≤ most ∧ most ≤ 15 := by omega
  have hlen : c.length ≤ 288 := by omega
  refine ⟨fun n st w1 => ∃ i : Nat, st = (((((c.take i).filter fun x => decide (0 < x)).length : Nat) : Int), (i : Int)) ∧ i ≤ c.length ∧ n = c.length - i ∧ (∀ j, j < i → 0 ≤ c.getD j 0 ∧ c.getD j 0 ≤ 2147483647) ∧ w1 = w, c.length, ⟨0, rfl, by omega, rfl, fun j hj => by omega, rfl⟩, ?_⟩
  rintro n st w ⟨i, rfl, hi, rfl, hc, rfl⟩
  unfold S18L1
  dsimp only
  rw [h1]
  have hp := posT c i hi
  refine Br.dec (fun q => ⟨by omega, by omega, ?_⟩) fun q => ?_
  · have hlt : i < c.length := by omega
    obtain ⟨a, ha, hcell⟩ := h.get hlt
    rw [ha, Int.toNat_natCast, i64_id (n := (i : Int) + 1) (by omega)]
    have hs := pos_step hlt
    have hc' : ¬ c.getD i 0 < 0 → ¬ c.getD i 0 > 2147483647 → ∀ j, j < i + 1 → 0 ≤ c.getD j 0 ∧ c.getD j 0 ≤ 2147483647 := fun h1 h2 j hj => by
      by_cases e : j = i
      · subst e; omega
      · exact hc j (by omega)
    refine Nn.of (Ld.mk hcell (Br.dec (fun q4 => ⟨(Srt.why_arg hlen hm hlt (.inl q4)).symm, rfl⟩) fun q4 => ⟨by omega, by omega, Nn.of (Ld.mk hcell (Br.dec (fun q5 => ⟨(Srt.why_arg hlen hm hlt (.inr q5)).symm, rfl⟩) fun q5 => ⟨by omega, by omega, Nn.of (Ld.mk hcell (Br.dec (fun q6 => ?_) fun q6 => ?_))⟩))⟩))
    · rw [if_pos q6] at hs
      rw [i64_id (by omega)]
      exact ⟨c.length - (i + 1), by omega, i + 1, pair_eq (by rw [hs, List.length_append]; simp) rfl, by omega, rfl, hc' q4 q5, rfl⟩
    · rw [if_neg q6, List.append_nil] at hs
      exact ⟨c.length - (i + 1), by omega, i + 1, pair_eq (by rw [hs]) rfl, by omega, rfl, hc' q4 q5, rfl⟩
  · have : i = c.length := by omega
    subst this
    obtain ⟨mo, rfl⟩ : ∃ mo : Nat, most = (mo : Int) := ⟨most.toNat, by omega⟩
    refine (r_bits (n := mo) (by omega) w).mono ?_
    rintro r w ⟨rfl, rfl⟩
    rw [Srt.why_rest hlen hm hc, Int.toNat_natCast, List.take_length]
    have e : ((c.filter fun x => decide (0 < x)).length : Nat) = (srt c).length := by
      unfold srt
      rw [List.length_mergeSort]
    rw [e]
    refine Br.dec (fun q7 => ⟨by rw [if_pos (by omega)], rfl⟩) fun q7 => ⟨by rw [if_neg (by omega)], rfl⟩
end
end Cd
end Go.Proofs.Ytapgacggllbhiaa
