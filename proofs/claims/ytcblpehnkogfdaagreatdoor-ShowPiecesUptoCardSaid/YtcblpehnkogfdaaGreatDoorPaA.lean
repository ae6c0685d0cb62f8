/- Sums of numbers: fix.Sum and the reference's. Conditions: sizes. -/
import Derived.Test.YtcblpehnkogfdaaGreatDoorMatX
namespace Go.Proofs.YtcblpehnkogfdaaGreatDoor
namespace Pat
open Sh Mat Fix
set_option linter.unusedVariables false
set_option linter.unusedSimpArgs false
set_option maxRecDepth 4000
set_option maxHeartbeats 2000000
/-- The sum of the first k numbers. -/
def ps (l : List Int) : Nat → Int
  | 0 => 0
  | k + 1 => ps l k + l.getD k 0
def sumF (l : List Int) : Int × Int := if l.all inW = true ∧ inW (ps l l.length) = true then (ps l l.length, 0) else (0, 2)
theorem sumF_yes {l : List Int} (ha : allW l) (hn : inW (ps l l.length) = true) : sumF l = (ps l l.length, 0) := if_pos ⟨(all_iff l).2 ha, hn⟩
theorem sumF_no {l : List Int} (h : ¬ allW l ∨ inW (ps l l.length) = false) : sumF l = (0, 2) := if_neg fun h2 => by
  rcases h with h | h
  · exact h ((all_iff l).1 h2.1)
  · rw [h] at h2
    cases h2.2
theorem ps_bd {l : List Int} : ∀ (k : Nat), k ≤ l.length → (∀ i, i < k → inW (l.getD i 0) = true) → -(1073741824 * (k : Int)) ≤ ps l k ∧ ps l k ≤ 1073741824 * (k : Int)
  | 0, _, _ => by simp [ps]
  | k + 1, hk, h => by
    have h1 := ps_bd k (by omega) fun i hi => h i (by omega)
    have h2 := inW_spec.1 (h k (by omega))
    simp only [ps]
    omega
section
variable {w : World} {s : Slc} {l : List Int}
attribute [local irreducible] Ld St Nw Nn Lt LdS
theorem c_sum (h : IRow w s l) (hl : l.length ≤ 1000000) : C63 s w fun r e w1 => (r, e) = sumF l ∧ Ext (fun _ => False) w w1 := by
  refine T63 _ _ _ ?_
  unfold S63
  have hn := h.1
  refine (Hx.start w (fun _ => False)).nw fun w2 H => ?_
  have hs := H.size
  refine H.nw fun w3 H => ?_
  have caught : ∀ (cs1 cs2 : Int) (w4 : World), Hx w (fun _ => False) w4 [(w.heap.size, #[.int .i64 cs1], 2), (w2.heap.size, #[.int .i64 cs2], 43)] → (sumF l = (0, 2)) →
      S63P w w2 (fun r e w1 => (r, e) = sumF l ∧ Ext (fun _ => False) w w1) (refused 2) w4 := fun cs1 cs2 w4 H hd => by
    unfold S63P
    refine T101_T170 _ _ 2 _ _ ?_
    unfold S101_T170
    refine Nn.of (H.st 0 rfl (by simp) (.inr (Nat.le_refl _)) fun w5 H => Nn.of (H.st 1 rfl (by simp) (.inr hs) fun w6 H => H.ld 0 rfl rfl (H.ld 1 rfl rfl ⟨hd.symm, H.ext⟩)))
  have done : ∀ (r e : Int) (w4 : World), Hx w (fun _ => False) w4 [(w.heap.size, #[.int .i64 r], 2), (w2.heap.size, #[.int .i64 e], 43)] → sumF l = (r, e) →
      CD101 (some (⟨w.heap.size, 0, none⟩ : Addr)) (some (⟨w2.heap.size, 0, none⟩ : Addr)) none w4 fun vw15 =>
        Ld vw15 (⟨w.heap.size, 0, none⟩ : Addr) (Value.int .i64) fun (x16 : Int) =>
        Ld vw15 (⟨w2.heap.size, 0, none⟩ : Addr) (Value.int .i64) fun (x17 : Int) =>
        (x16, x17) = sumF l ∧ Ext (fun _ => False) w vw15 := fun r e w4 H hd => by
    refine T101_nil _ _ _ _ ?_
    unfold S101_nil
    exact H.ld 0 rfl rfl (H.ld 1 rfl rfl ⟨hd.symm, H.ext⟩)
  refine (c_bounded (h.keep H.ext) (by omega)).mono (fun w4 h4 => ?_) fun v w4 h4 => ?_
  case refine_2 =>
    obtain ⟨rfl, rfl, ha⟩ := h4
    exact caught _ _ _ H (sumF_no (.inl ha))
  obtain ⟨rfl, ha⟩ := h4
  refine ⟨fun n st w5 => ∃ k : Nat, st = (k : Int) ∧ k ≤ l.length ∧ n = l.length - k ∧ Hx w (fun _ => False) w5 [(w.heap.size, #[.int .i64 (ps l k)], 2), (w2.heap.size, #[.int .i64 0], 43)], l.length, ⟨0, rfl, by omega, rfl, H⟩, ?_⟩
  rintro n st w5 ⟨k, rfl, hk, rfl, H⟩
  unfold S63L1
  rw [hn]
  have hbd := ps_bd k hk fun i hi => ha i (by omega)
  refine Br.dec (fun e3 => ?_) fun e3 => ?_
  · obtain ⟨a, haa, hc1⟩ := (h.keep H.ext).2 k (by omega)
    rw [haa, Int.toNat_natCast, Nat.mul_one]
    have h1 := inW_spec.1 (ha k (by omega))
    refine ⟨by omega, by omega, Nn.of (Ld.mk hc1 (H.ld 0 rfl rfl ?_))⟩
    rw [i64_id (n := ps l k + l.getD k 0) (by omega)]
    exact H.st 0 rfl (by simp) (.inr (Nat.le_refl _)) fun w6 H => ⟨l.length - (k + 1), by omega, k + 1, by rw [i64_id (by omega)]; rfl, by omega, rfl, H⟩
  · have hk2 : k = l.length := by omega
    refine H.ld 0 rfl rfl ?_
    refine (c_answer _ _).mono (fun r w7 h7 => ?_) fun v w7 h7 => ?_
    · obtain ⟨rfl, hw, he⟩ := h7
      have H := H.keep he
      exact H.st 0 rfl (by simp) (.inr (Nat.le_refl _)) fun w8 H => H.st 1 rfl (by simp) (.inr hs) fun w9 H => done _ 0 _ H (by rw [hk2] at hw ⊢; exact sumF_yes ha hw)
    · obtain ⟨rfl, hw, he⟩ := h7
      exact caught _ _ _ (H.keep he) (sumF_no (.inr (by rw [← hk2]; exact hw)))
theorem r_sum (h : IRow w s l) (hl : l.length ≤ 1000000) : C70 s w fun r e w1 => (r, e) = sumF l ∧ w1 = w := by
  refine T70 _ _ _ ?_
  unfold S70
  have hn := h.1
  refine ⟨fun n st w5 => ∃ k : Nat, st = (ps l k, (k : Int)) ∧ k ≤ l.length ∧ n = l.length - k ∧ w5 = w ∧ ∀ i, i < k → inW (l.getD i 0) = true, l.length, ⟨0, rfl, by omega, rfl, rfl, fun i hi => by omega⟩, ?_⟩
  rintro n st w5 ⟨k, rfl, hk, rfl, rfl, hall⟩
  unfold S70L1
  dsimp only
  rw [hn]
  have hbd := ps_bd k hk hall
  refine Br.dec (fun e3 => ?_) fun e3 => ?_
  · obtain ⟨a, haa, hc1⟩ := h.2 k (by omega)
    rw [haa, Int.toNat_natCast, Nat.mul_one]
    refine ⟨by omega, by omega, Nn.of (Ld.mk hc1 ((Fix.r_within _ _).mono ?_))⟩
    rintro r w6 ⟨rfl, rfl⟩
    cases hw : inW (l.getD k 0) with
    | false =>
      refine Br_of (fun _ => ⟨?_, rfl⟩) fun h => by cases h
      rw [sumF_no (.inl fun ha => by rw [ha k (by omega)] at hw; cases hw)]
    | true =>
      refine Br_of (fun h => by cases h) fun _ => ⟨by omega, by omega, Nn.of (Ld.mk hc1 ?_)⟩
      have h1 := inW_spec.1 hw
      refine ⟨l.length - (k + 1), by omega, k + 1, ?_, by omega, rfl, rfl, fun i hi => ?_⟩
      · rw [i64_id (by omega), i64_id (by omega)]
        rfl
      · by_cases hik : i = k
        · rw [hik]
          exact hw
        · exact hall i (by omega)
  · have hk2 : k = l.length := by omega
    refine (r_told _ _).mono ?_
    rintro r e w6 ⟨hr, rfl⟩
    refine ⟨?_, rfl⟩
    rw [hr, hk2]
    have ha : allW l := fun i hi => hall i (by omega)
    cases hw : inW (ps l l.length) with
    | false => rw [sumF_no (.inr hw), if_neg (by decide)]
    | true => rw [sumF_yes ha hw, if_pos rfl]
end
end Pat
end Go.Proofs.YtcblpehnkogfdaaGreatDoor
