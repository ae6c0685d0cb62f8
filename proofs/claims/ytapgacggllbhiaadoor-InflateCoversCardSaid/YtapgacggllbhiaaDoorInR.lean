/- Inflate: InflateCovers: the walk. Condition: the laid variables. -/
import Derived.Test.YtapgacggllbhiaaDoorInP
namespace Go.Proofs.YtapgacggllbhiaaDoor
namespace Inf
open Sh Bit
set_option linter.unusedVariables false
set_option linter.unusedSimpArgs false
set_option maxRecDepth 100000
set_option maxHeartbeats 2000000
theorem pow_more {k : Nat} (hk : k ≤ 28) : 2 ^ moreL k ≤ 32 ∧ 1 ≤ 2 ^ moreL k := by
  have h : moreL k ≤ 5 := by unfold moreL; split <;> omega
  have := Nat.pow_le_pow_right (n := 2) (by omega) h
  exact ⟨by omega, Nat.one_le_two_pow⟩
theorem pow_moreD {k : Nat} (hk : k ≤ 29) : 2 ^ moreD k ≤ 8192 ∧ 1 ≤ 2 ^ moreD k := by
  have h : moreD k ≤ 13 := by unfold moreD; omega
  have := Nat.pow_le_pow_right (n := 2) (by omega) h
  exact ⟨by omega, Nat.one_le_two_pow⟩
theorem cast_pow (m : Nat) : ((2 ^ m : Nat) : Int) = 2 ^ m := by simp
attribute [local irreducible] Ld St Nw Nn Lt LdS
section
variable {w : World} {N : Nat}
theorem covers_law (hL : Laid N w) : C6 w (fun r w1 => r = true ∧ Ext (fun _ => False) w w1) fun _ _ => False := by
  refine T6 _ _ _ ?_
  unfold S6
  refine ⟨fun n st w1 => ∃ k : Nat, st = ((if k ≤ 28 then ((baseL k : Nat) : Int) else 259), ((257 + k : Nat) : Int)) ∧ k ≤ 29 ∧ n = 29 - k ∧ Ext (fun _ => False) w w1, 29, ⟨0, rfl, by omega, rfl, Ext.refl _ _⟩, ?_⟩
  rintro n st w1 ⟨k, rfl, hk, rfl, e1⟩
  unfold S6L4
  dsimp only
  refine Br.dec (fun q => ?_) fun q => ?_
  · have hk28 : k ≤ 28 := by omega
    rw [if_pos hk28]
    obtain ⟨p1, p2⟩ := pow_more hk28
    obtain ⟨b1, b2, b3, b4, b5⟩ := base_bd (k := k) (by omega)
    refine ⟨fun n st w2 => ∃ m : Nat, st.2 = (m : Int) ∧ m ≤ 2 ^ moreL k ∧ n = 64 - m ∧ ((k < 28 ∧ st.1 = ((baseL k + m : Nat) : Int)) ∨ (k = 28 ∧ (m = 0 ∨ st.1 = 259))) ∧ Ext (fun _ => False) w w2, 64, ⟨0, rfl, by omega, rfl, by omega, e1⟩, ?_⟩
    rintro n ⟨x, st⟩ w2 ⟨m, hst, hm, rfl, hx, e2⟩
    have hst : st = (m : Int) := hst
    subst hst
    dsimp only at hx
    unfold S6L1
    dsimp only
    refine Br.dec (fun q1 => ?_) fun q1 => by omega
    refine (c_Size _ (m : Int) w2).mono ?_
    rintro r e w3 ⟨hr, e3⟩
    have E3 := e2.tr e3
    have hc := cast_pow (moreL k)
    by_cases hlt : m < 2 ^ moreL k
    · have hsz : sizeF ((257 + k : Nat) : Int) (m : Int) = ((firstL k : Int) + (m : Int), 0) := by
        unfold sizeF
        rw [if_neg (by omega), show (((257 + k : Nat) : Int) - 257).toNat = k by omega, if_neg (by omega)]
      rw [hsz] at hr
      obtain ⟨rfl, rfl⟩ := Prod.mk.inj hr
      refine Br.f rfl (Br.eq (fun q2 => ?_) fun q2 => ?_)
      · have : k = 28 := by omega
        subst this
        have hm0 : m = 0 := by have : 2 ^ moreL 28 = 1 := rfl; omega
        subst hm0
        refine Br.f rfl ⟨64 - 1, by omega, 1, rfl, Nat.le_refl _, rfl, .inr ⟨rfl, .inr rfl⟩, E3⟩
      · rcases hx with ⟨hk8, rfl⟩ | ⟨hk8, _⟩
        · have hf : firstL k = baseL k := by unfold firstL; rw [if_neg (by omega)]
          rw [hf]
          refine Br.f (by simp) ?_
          rw [i64_id (n := ((baseL k + m : Nat) : Int) + 1) (by omega), i64_id (n := (m : Int) + 1) (by omega)]
          exact ⟨64 - (m + 1), by omega, m + 1, rfl, by omega, rfl, .inl ⟨hk8, by show ((baseL k + m : Nat) : Int) + 1 = _; omega⟩, E3⟩
        · omega
    · have hsz : sizeF ((257 + k : Nat) : Int) (m : Int) = (0, 1) := by
        unfold sizeF
        rw [if_neg (by omega), show (((257 + k : Nat) : Int) - 257).toNat = k by omega, if_pos (by omega)]
      rw [hsz] at hr
      obtain ⟨rfl, rfl⟩ := Prod.mk.inj hr
      have hme : m = 2 ^ moreL k := by omega
      refine Br.t rfl ⟨29 - (k + 1), by omega, k + 1, ?_, by omega, rfl, E3⟩
      rw [i64_id (n := ((257 + k : Nat) : Int) + 1) (by omega)]
      rcases hx with ⟨hk8, rfl⟩ | ⟨hk8, h0⟩
      · rw [if_pos (by omega), hme]
        have e : baseL (k + 1) = baseL k + 2 ^ moreL k := by unfold moreL; rw [if_neg (by omega)]; rfl
        rw [e]
        congr 1
      · subst hk8
        have h1 : 2 ^ moreL 28 = 1 := rfl
        have h0 : x = 259 := by omega
        rw [h0]
        rfl
  · have : k = 29 := by omega
    subst this
    refine ⟨fun n st w2 => ∃ j : Nat, st = (((baseD j : Nat) : Int), (j : Int)) ∧ j ≤ 30 ∧ n = 30 - j ∧ Ext (fun _ => False) w w2, 30, ⟨0, rfl, by omega, rfl, e1⟩, ?_⟩
    rintro n st w2 ⟨j, rfl, hj, rfl, e2⟩
    unfold S6L3
    dsimp only
    refine Br.dec (fun q2 => ?_) fun q2 => ?_
    · have hj29 : j ≤ 29 := by omega
      obtain ⟨p1, p2⟩ := pow_moreD hj29
      obtain ⟨b1, b2, b3, b4, b5⟩ := base_bd (k := j) (by omega)
      refine ⟨fun n st w3 => ∃ m : Nat, st = (((baseD j + m : Nat) : Int), (m : Int)) ∧ m ≤ 2 ^ moreD j ∧ n = 10000 - m ∧ Ext (fun _ => False) w w3, 10000, ⟨0, rfl, by omega, rfl, e2⟩, ?_⟩
      rintro n st w3 ⟨m, rfl, hm, rfl, e3⟩
      unfold S6L2
      dsimp only
      refine Br.dec (fun q3 => ?_) fun q3 => by omega
      refine (c_Far _ (m : Int) w3).mono ?_
      rintro r e w4 ⟨hr, e4⟩
      have E4 := e3.tr e4
      have hc := cast_pow (moreD j)
      by_cases hlt : m < 2 ^ moreD j
      · have hsz : farF (j : Int) (m : Int) = ((baseD j : Int) + (m : Int), 0) := by
          unfold farF
          rw [if_neg (by omega), Int.toNat_natCast, if_neg (by omega)]
        rw [hsz] at hr
        obtain ⟨rfl, rfl⟩ := Prod.mk.inj hr
        refine Br.f rfl (Br.f (by simp) ?_)
        rw [i64_id (n := ((baseD j + m : Nat) : Int) + 1) (by omega), i64_id (n := (m : Int) + 1) (by omega)]
        exact ⟨10000 - (m + 1), by omega, m + 1, by rw [← Nat.add_assoc]; rfl, by omega, rfl, E4⟩
      · have hsz : farF (j : Int) (m : Int) = (0, 1) := by
          unfold farF
          rw [if_neg (by omega), Int.toNat_natCast, if_pos (by omega)]
        rw [hsz] at hr
        obtain ⟨rfl, rfl⟩ := Prod.mk.inj hr
        have hme : m = 2 ^ moreD j := by omega
        rw [i64_id (n := (j : Int) + 1) (by omega)]
        exact Br.t rfl ⟨30 - (j + 1), by omega, j + 1, by rw [hme]; rfl, by omega, rfl, E4⟩
    · have : j = 30 := by omega
      subst this
      refine Br.t rfl (Br.t (by decide +kernel) ((c_lives (hL.no e2)).mono ?_ fun _ _ h => h))
      rintro r w3 ⟨rfl, e3⟩
      exact ⟨rfl, e2.tr e3⟩
end
end Inf
end Go.Proofs.YtapgacggllbhiaaDoor
