/- Inflate: ints in slices, sizes and distances; both sides. Conditions: none but ranges. -/
import Derived.Test.YtapgacggllbhiaaInS
import Derived.Test.YtapgacggllbhiaaEl
import Derived.Test.YtapgacggllbhiaaRd
import Derived.Test.YtapgacggllbhiaaFnCode
namespace Go.Proofs.Ytapgacggllbhiaa
namespace Inf
open Sh Bit
set_option linter.unusedVariables false
set_option linter.unusedSimpArgs false
set_option maxRecDepth 4000
set_option maxHeartbeats 1000000
theorem Br.t {b : Bool} {A B : Prop} (h : b = true) (k : A) : Br b A B := by rw [h]; exact k
theorem Br.f {b : Bool} {A B : Prop} (h : b = false) (k : B) : Br b A B := by rw [h]; exact k
def ints (l : List Int) : List Value := l.map fun x => .int .i64 x
theorem elI : El Try.prog 22 3 1 8 (.int .i64 0) := ⟨by kernel_rfl, by kernel_rfl, by kernel_rfl, by kernel_rfl, rfl⟩
theorem ints_len (l : List Int) : (ints l).length = l.length := by unfold ints; simp
theorem ints_one (l : List Int) : ∀ v ∈ ints l, v.oneCell' = true := by
  intro v hv
  obtain ⟨x, _, rfl⟩ := List.mem_map.1 hv
  rfl
theorem ints_get {l : List Int} {i : Nat} (hi : i < l.length) : (ints l)[i]? = some (.int .i64 (l.getD i 0)) := by
  unfold ints
  rw [List.getElem?_map, List.getElem?_eq_getElem hi, List.getD_eq_getElem?_getD, List.getElem?_eq_getElem hi]
  rfl
theorem ints_set (l : List Int) (i : Nat) (x : Int) : (ints l).set i (.int .i64 x) = ints (l.set i x) := by unfold ints; rw [List.map_set]
theorem ints_app (l m : List Int) : ints (l ++ m) = ints l ++ ints m := by unfold ints; rw [List.map_append]
/-- The ints of a slice. -/
def IV (w : World) (s : Slc) (l : List Int) : Prop := s.len = l.length ∧ VRow w s 1 (ints l)
theorem IV.keep {w w' : World} {s : Slc} {l : List Int} (h : IV w s l) (he : Ext (fun _ => False) w w') : IV w' s l := ⟨h.1, h.2.keep he⟩
theorem IV.keepF {F : Nat → Prop} {w w' : World} {s : Slc} {l : List Int} (h : IV w s l) (he : Ext F w w') (hF : ∀ j, s.own j → ¬ F j) : IV w' s l := ⟨h.1, h.2.keepF he hF⟩
theorem IV.nil (w : World) : IV w ⟨none, 0, 0⟩ [] := ⟨rfl, rfl, fun j v h => by cases h⟩
theorem IV.get {w : World} {s : Slc} {l : List Int} (h : IV w s l) {i : Nat} (hi : i < l.length) : ∃ a, s.p = some a ∧ w.cell? (a.add (i * 1)) = some (.int .i64 (l.getD i 0)) := by
  obtain ⟨a, ha, hc⟩ := h.2.2 i _ (ints_get hi)
  exact ⟨a, ha, by rw [Nat.mul_one]; exact hc⟩
theorem getD_in {l : List Int} {P : Int → Prop} (h : ∀ x ∈ l, P x) {i : Nat} (hi : i < l.length) : P (l.getD i 0) := by
  rw [List.getD_eq_getElem?_getD, List.getElem?_eq_getElem hi]
  exact h _ (List.getElem_mem hi)
attribute [local irreducible] Ld St Nw Nn Lt LdS
/-! ### Sizes and distances -/
def spr (first each : Nat) : Nat → Nat
  | 0 => first
  | k + 1 => spr first each k + 2 ^ (k / each - 1)
theorem spr_L : ∀ k, spr 3 4 k = baseL k
  | 0 => rfl
  | k + 1 => by show spr 3 4 k + _ = baseL k + _; rw [spr_L k]
theorem spr_D : ∀ k, spr 1 2 k = baseD k
  | 0 => rfl
  | k + 1 => by show spr 1 2 k + _ = baseD k + _; rw [spr_D k]
theorem pow14 {k each : Nat} (hk : k ≤ 30) (he : 2 ≤ each) : 2 ^ (k / each - 1) ≤ 16384 := by
  have h1 : k / each ≤ k / 2 := Nat.div_le_div_left he (by omega)
  have : 2 ^ (k / each - 1) ≤ 2 ^ 14 := Nat.pow_le_pow_right (by omega) (by omega)
  omega
theorem spr_bd {first each : Nat} (he : 2 ≤ each) : ∀ k, k ≤ 30 → spr first each k ≤ first + k * 16384
  | 0, _ => by show first ≤ _; omega
  | k + 1, hk => by
    have ih := spr_bd (first := first) he k (by omega)
    have := pow14 (k := k) (by omega) he
    show spr first each k + 2 ^ (k / each - 1) ≤ _
    omega
theorem sh1 {x : Int} {m : Nat} (hx : x = (m : Int)) (hm : m ≤ 30) : IntKind.i64.wrap (1 * 2 ^ (min x.toNat 64)) = ((2 ^ m : Nat) : Int) := by
  subst hx
  rw [Int.toNat_natCast, show min m 64 = m by omega, Int.one_mul]
  have h1 : 2 ^ m ≤ 2 ^ 30 := Nat.pow_le_pow_right (by omega) hm
  have e : ((2 ^ m : Nat) : Int) = 2 ^ m := by simp
  have h0 := two_pow_pos m
  rw [← e]
  exact i64_id (by omega)
theorem more_id {k each : Nat} (hk : k ≤ 30) (he : 2 ≤ each) (h9 : each ≤ 9) : (if IntKind.i64.wrap (IntKind.i64.wrap (Int.tdiv (k : Int) (each : Int)) - 1) > 0 then IntKind.i64.wrap (IntKind.i64.wrap (Int.tdiv (k : Int) (each : Int)) - 1) else 0) = ((k / each - 1 : Nat) : Int) := by
  rw [tdiv_id (by omega)]
  have e : (k : Int) / (each : Int) = ((k / each : Nat) : Int) := by simp
  have h1 : k / each ≤ k := Nat.div_le_self _ _
  have h2 : (0 : Int) ≤ ((k / each : Nat) : Int) := Int.natCast_nonneg _
  rw [e, i64_id (n := ((k / each : Nat) : Int)) (by omega), i64_id (by omega)]
  split <;> omega
def toldF (first : Int) (m : Nat) (more : Int) : Int × Int := if more < 0 ∨ 2 ^ m ≤ more then (0, 1) else (first + more, 0)
theorem base_bd {k : Nat} (hk : k ≤ 30) : baseL k ≤ 500000 ∧ baseD k ≤ 500000 ∧ firstL k ≤ 500000 ∧ moreL k ≤ 30 ∧ moreD k ≤ 30 := by
  have h1 := spr_bd (first := 3) (each := 4) (by omega) k hk
  have h2 := spr_bd (first := 1) (each := 2) (by omega) k hk
  rw [spr_L] at h1
  rw [spr_D] at h2
  refine ⟨by omega, by omega, ?_, ?_, ?_⟩
  · unfold firstL; split <;> omega
  · unfold moreL; split <;> omega
  · unfold moreD; omega
/-! ### The reference's -/
theorem u64_id {n : Int} (h : 0 ≤ n ∧ n ≤ 18446744073709551615) : IntKind.u64.wrap n = n := IntWalk.u64_in n h
theorem sh1u {m : Nat} (hm : m ≤ 30) : IntKind.i64.wrap (1 * 2 ^ (min (IntKind.u64.wrap (m : Int)).toNat 64)) = ((2 ^ m : Nat) : Int) := by
  rw [u64_id (by omega)]
  exact sh1 rfl hm
end Inf
end Go.Proofs.Ytapgacggllbhiaa
