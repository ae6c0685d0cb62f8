/- Inflate: ints in slices, sizes and distances; both sides. Conditions: none but ranges. -/
import Derived.Test.YtapgacggllbhiaaDoorInS
import Derived.Test.YtapgacggllbhiaaDoorEl
import Derived.Test.YtapgacggllbhiaaDoorRd
import Derived.Test.YtapgacggllbhiaaDoorFnCode
namespace Go.Proofs.YtapgacggllbhiaaDoor
namespace Inf
open Sh Bit
set_option linter.unusedVariables false
set_option linter.unusedSimpArgs false
set_option maxRecDepth 4000
set_option maxHeartbeats 1000000
theorem Br.t {b : Bool} {A B : Prop} (h : b = true) (k : A) : Br b A B := by rw [h]; exact k
theorem Br.f {b : Bool} {A B : Prop} (h : b = false) (k : B) : Br b A B := by rw [h]; exact k
def ints (l : List Int) : List Value := l.map fun x => .int .i64 x
theorem elI : El Tryd.prog 28 3 1 8 (.int .i64 0) := ⟨by kernel_rfl, by kernel_rfl, by kernel_rfl, by kernel_rfl, rfl⟩
theorem ints_len (l : List Int) : (ints l).length = l.length := by unfold ints; simp
theorem ints_one (l : List Int) : ∀ v ∈ ints l, v.oneCell' = true := by
  intro v hv
  obtain ⟨x, _, rfl⟩ := List.mem_map.1 hv
  rfl
theorem ints_get {l : List Int} {i : Nat} (hi : i < l.length) : (ints l)[i]? = some (.int .i64 (l.getD i 0)) := by
  unfold ints
  rw [List.getElem?_map, List.getElem?_eq_getElem hi, List.getD_eq_getElem?_getD, List.getElem?_eq_getElem hi]
  rfl
theorem ints_set (l : List Int) (i : Nat) (x : Int) : (ints l).set i (.int .i64 x) = ints (l.set i x) := by unfold ints; rw [List.map_set]
theorem ints_app (l m : List Int) : ints (l ++ m) = ints l ++ ints m := by unfold ints; rw [List.map_append]
/-- The ints of a slice. -/
def IV (w : World) (s : Slc) (l : List Int) : Prop := s.len = l.length ∧ VRow w s 1 (ints l)
theorem IV.keep {w w' : World} {s : Slc} {l : List Int} (h : IV w s l) (he : Ext (fun _ => False) w w') : IV w' s l := ⟨h.1, h.2.keep he⟩
theorem IV.keepF {F : Nat → Prop} {w w' : World} {s : Slc} {l : List Int} (h : IV w s l) (he : Ext F w w') (hF : ∀ j, s.own j → ¬ F j) : IV w' s l := ⟨h.1, h.2.keepF he hF⟩
theorem IV.nil (w : World) : IV w ⟨none, 0, 0⟩ [] := ⟨rfl, rfl, fun j v h => by cases h⟩
theorem IV.get {w : World} {s : Slc} {l : List Int} (h : IV w s l) {i : Nat} (hi : i < l.length) : ∃ a, s.p = some a ∧ w.cell? (a.add (i * 1)) = some (.int .i64 (l.getD i 0)) := by
  obtain ⟨a, ha, hc⟩ := h.2.2 i _ (ints_get hi)
  exact ⟨a, ha, by rw [Nat.mul_one]; exact hc⟩
theorem getD_in {l : List Int} {P : Int → Prop} (h : ∀ x ∈ l, P x) {i : Nat} (hi : i < l.length) : P (l.getD i 0) := by
  rw [List.getD_eq_getElem?_getD, List.getElem?_eq_getElem hi]
  exact h _ (List.getElem_mem hi)
attribute [local irreducible] Ld St Nw Nn Lt LdS
/-! ### Sizes and distances -/
def spr (first each : Nat) : Nat → Nat
  | 0 => first
  | k + 1 => spr first each k + 2 ^ (k / each - 1)
theorem spr_L : ∀ k, spr 3 4 k = baseL k
  | 0 => rfl
  | k + 1 => by show spr 3 4 k + _ = baseL k + _; rw [spr_L k]
theorem spr_D : ∀ k, spr 1 2 k = baseD k
  | 0 => rfl
  | k + 1 => by show spr 1 2 k + _ = baseD k + _; rw [spr_D k]
theorem pow14 {k each : Nat} (hk : k ≤ 30) (he : 2 ≤ each) : 2 ^ (k / each - 1) ≤ 16384 := by
  have h1 : k / each ≤ k / 2 := Nat.div_le_div_left he (by omega)
  have : 2 ^ (k / each - 1) ≤ 2 ^ 14 := Nat.pow_le_pow_right (by omega) (by omega)
  omega
theorem spr_bd {first each : Nat} (he : 2 ≤ each) : ∀ k, k ≤ 30 → spr first each k ≤ first + k * 16384
  | 0, _ => by show first ≤ _; omega
  | k + 1, hk => by
    have ih := spr_bd (first := first) he k (by omega)
    have := pow14 (k := k) (by omega) he
    show spr first each k + 2 ^ (k / each - 1) ≤ _
    omega
theorem sh1 {x : Int} {m : Nat} (hx : x = (m : Int)) (hm : m ≤ 30) : IntKind.i64.wrap (1 * 2 ^ (min x.toNat 64)) = ((2 ^ m : Nat) : Int) := by
  subst hx
  rw [Int.toNat_natCast, show min m 64 = m by omega, Int.one_mul]
  have h1 : 2 ^ m ≤ 2 ^ 30 := Nat.pow_le_pow_right (by omega) hm
  have e : ((2 ^ m : Nat) : Int) = 2 ^ m := by simp
  have h0 := two_pow_pos m
  rw [← e]
  exact i64_id (by omega)
theorem more_id {k each : Nat} (hk : k ≤ 30) (he : 2 ≤ each) (h9 : each ≤ 9) : (if IntKind.i64.wrap (IntKind.i64.wrap (Int.tdiv (k : Int) (each : Int)) - 1) > 0 then IntKind.i64.wrap (IntKind.i64.wrap (Int.tdiv (k : Int) (each : Int)) - 1) else 0) = ((k / each - 1 : Nat) : Int) := by
  rw [tdiv_id (by omega)]
  have e : (k : Int) / (each : Int) = ((k / each : Nat) : Int) := by simp
  have h1 : k / each ≤ k := Nat.div_le_self _ _
  have h2 : (0 : Int) ≤ ((k / each : Nat) : Int) := Int.natCast_nonneg _
  rw [e, i64_id (n := ((k / each : Nat) : Int)) (by omega), i64_id (by omega)]
  split <;> omega
theorem c_spread {i first each : Nat} (hi : i ≤ 30) (hf : first ≤ 1000) (he : 2 ≤ each) (h9 : each ≤ 9) (w : World) : C54 (i : Int) (first : Int) (each : Int) w fun r w1 => r = (((spr first each i : Nat) : Int), ((i / each - 1 : Nat) : Int)) ∧ Ext (fun _ => False) w w1 := by
  refine T54 _ _ _ _ _ ?_
  unfold S54
  refine (Hn.start w).nw fun w2 H => ?_
  simp only [List.nil_append] at H
  refine ⟨fun n st w3 => ∃ k : Nat, st = (((spr first each k : Nat) : Int), (k : Int)) ∧ k ≤ i ∧ n = i - k ∧ w3 = w2, i, ⟨0, rfl, by omega, rfl, rfl⟩, ?_⟩
  rintro n st w3 ⟨k, rfl, hk, rfl, rfl⟩
  unfold S54L1
  dsimp only
  refine Br.dec (fun q => ⟨by omega, Lt.of ?_⟩) fun q => ⟨by omega, Lt.of ?_⟩
  · have h1 := spr_bd (first := first) he k (by omega)
    have h2 := pow14 (k := k) (each := each) (by omega) he
    have h3 : (0 : Int) ≤ ((2 ^ (k / each - 1) : Nat) : Int) := Int.natCast_nonneg _
    rw [more_id (by omega) he h9, sh1 rfl (by have : k / each ≤ k := Nat.div_le_self _ _; omega), i64_id (n := (k : Int) + 1) (by omega), i64_id (by omega)]
    exact ⟨by omega, i - (k + 1), by omega, k + 1, by rw [show spr first each (k + 1) = spr first each k + 2 ^ (k / each - 1) by rfl]; simp, by omega, rfl, rfl⟩
  · have hki : k = i := by omega
    subst hki
    rw [more_id (by omega) he h9]
    iterate 2 (refine H.st 0 rfl (by simp) fun _ H => ?_; simp only [List.nil_append, List.cons_append, List.set_cons_zero, List.set_cons_succ, Nat.zero_add] at H)
    iterate 2 refine H.ld 0 rfl rfl ?_
    exact ⟨rfl, H.ext⟩
def toldF (first : Int) (m : Nat) (more : Int) : Int × Int := if more < 0 ∨ 2 ^ m ≤ more then (0, 1) else (first + more, 0)
theorem c_told {first : Int} {m : Nat} (hf : 0 ≤ first ∧ first ≤ 1000000) (hm : m ≤ 30) (more : Int) (w : World) : C34 (first, (m : Int)) more w fun r e w1 => (r, e) = toldF first m more ∧ Ext (fun _ => False) w w1 := by
  refine T34 (first, (m : Int)) _ _ _ ?_
  unfold S34 toldF
  refine (Hn.start w).nw fun w2 H => ?_
  simp only [List.nil_append] at H
  have hp : 2 ^ m ≤ 2 ^ 30 := Nat.pow_le_pow_right (by omega) hm
  have e2 : ((2 ^ m : Nat) : Int) = 2 ^ m := by simp
  refine Br.dec (fun q => ⟨by rw [if_pos (.inl q)], H.ext⟩) fun q => ?_
  iterate 1 refine H.ld 0 rfl rfl ?_
  refine ⟨by omega, ?_⟩
  rw [sh1 rfl hm]
  refine Br.dec (fun q2 => ⟨by rw [if_pos (.inr (by omega))], H.ext⟩) fun q2 => ?_
  iterate 1 refine H.ld 0 rfl rfl ?_
  rw [if_neg (by omega), i64_id (by omega)]
  exact ⟨rfl, H.ext⟩
theorem c_size (k : Nat) (hk : k ≤ 28) (w : World) : C33 (k : Int) w fun r w1 => r = (((firstL k : Nat) : Int), ((moreL k : Nat) : Int)) ∧ Ext (fun _ => False) w w1 := by
  refine T33 _ _ _ ?_
  unfold S33
  refine (Hn.start w).nw fun w2 H => ?_
  simp only [List.nil_append] at H
  refine Br.eq (fun q => ?_) fun q => ?_
  · have : k = 28 := by omega
    subst this
    iterate 2 (refine H.st 0 rfl (by simp) fun _ H => ?_; simp only [List.nil_append, List.cons_append, List.set_cons_zero, List.set_cons_succ, Nat.zero_add] at H)
    iterate 2 refine H.ld 0 rfl rfl ?_
    exact ⟨rfl, H.ext⟩
  · have hne : k ≠ 28 := by omega
    refine (c_spread (i := k) (first := 3) (each := 4) (by omega) (by omega) (by omega) (by omega) _).mono ?_
    rintro r w3 ⟨rfl, he⟩
    have H := H.keep he
    iterate 2 (refine H.st 0 rfl (by simp) fun _ H => ?_; simp only [List.nil_append, List.cons_append, List.set_cons_zero, List.set_cons_succ, Nat.zero_add] at H)
    iterate 2 refine H.ld 0 rfl rfl ?_
    exact ⟨by unfold firstL moreL; rw [if_neg hne, if_neg hne, spr_L], H.ext⟩
theorem c_farS (k : Nat) (hk : k ≤ 29) (w : World) : C36 (k : Int) w fun r w1 => r = (((baseD k : Nat) : Int), ((moreD k : Nat) : Int)) ∧ Ext (fun _ => False) w w1 := by
  refine T36 _ _ _ ?_
  unfold S36
  refine (Hn.start w).nw fun w2 H => ?_
  simp only [List.nil_append] at H
  refine (c_spread (i := k) (first := 1) (each := 2) (by omega) (by omega) (by omega) (by omega) _).mono ?_
  rintro r w3 ⟨rfl, he⟩
  have H := H.keep he
  iterate 2 (refine H.st 0 rfl (by simp) fun _ H => ?_; simp only [List.nil_append, List.cons_append, List.set_cons_zero, List.set_cons_succ, Nat.zero_add] at H)
  iterate 2 refine H.ld 0 rfl rfl ?_
  exact ⟨by unfold moreD; rw [spr_D], H.ext⟩
theorem base_bd {k : Nat} (hk : k ≤ 30) : baseL k ≤ 500000 ∧ baseD k ≤ 500000 ∧ firstL k ≤ 500000 ∧ moreL k ≤ 30 ∧ moreD k ≤ 30 := by
  have h1 := spr_bd (first := 3) (each := 4) (by omega) k hk
  have h2 := spr_bd (first := 1) (each := 2) (by omega) k hk
  rw [spr_L] at h1
  rw [spr_D] at h2
  refine ⟨by omega, by omega, ?_, ?_, ?_⟩
  · unfold firstL; split <;> omega
  · unfold moreL; split <;> omega
  · unfold moreD; omega
theorem c_Size (sign more : Int) (w : World) : C11 sign more w fun r e w1 => (r, e) = sizeF sign more ∧ Ext (fun _ => False) w w1 := by
  refine T11 _ _ _ _ ?_
  unfold S11 sizeF
  refine Br.dec (fun q => ⟨by rw [if_pos (.inl q)], Ext.refl _ _⟩) fun q => Br.dec (fun q2 => ⟨by rw [if_pos (.inr q2)], Ext.refl _ _⟩) fun q2 => ?_
  obtain ⟨k, hk⟩ : ∃ k : Nat, sign - 257 = (k : Int) := ⟨(sign - 257).toNat, by omega⟩
  rw [i64_id (by omega), hk, if_neg (by omega), Int.toNat_natCast]
  refine (c_size k (by omega) w).mono ?_
  rintro r w2 ⟨rfl, he⟩
  obtain ⟨b1, b2, b3, b4, b5⟩ := base_bd (k := k) (by omega)
  refine (c_told (first := (firstL k : Nat)) (m := moreL k) (by omega) b4 more w2).mono ?_
  rintro r e w3 ⟨h, he2⟩
  exact ⟨h, he.tr he2⟩
theorem c_Far (sign more : Int) (w : World) : C13 sign more w fun r e w1 => (r, e) = farF sign more ∧ Ext (fun _ => False) w w1 := by
  refine T13 _ _ _ _ ?_
  unfold S13 farF
  refine Br.dec (fun q => ⟨by rw [if_pos (.inl q)], Ext.refl _ _⟩) fun q => Br.dec (fun q2 => ⟨by rw [if_pos (.inr q2)], Ext.refl _ _⟩) fun q2 => ?_
  obtain ⟨k, rfl⟩ : ∃ k : Nat, sign = (k : Int) := ⟨sign.toNat, by omega⟩
  rw [if_neg (by omega), Int.toNat_natCast]
  refine (c_farS k (by omega) w).mono ?_
  rintro r w2 ⟨rfl, he⟩
  obtain ⟨b1, b2, b3, b4, b5⟩ := base_bd (k := k) (by omega)
  refine (c_told (first := (baseD k : Nat)) (m := moreD k) (by omega) b5 more w2).mono ?_
  rintro r e w3 ⟨h, he2⟩
  exact ⟨h, he.tr he2⟩
/-! ### The reference's -/
theorem u64_id {n : Int} (h : 0 ≤ n ∧ n ≤ 18446744073709551615) : IntKind.u64.wrap n = n := IntWalk.u64_in n h
theorem r_longer {k : Nat} (hk : k ≤ 28) (w : World) : C35 ((257 + k : Nat) : Int) w fun r w1 => r = ((moreL k : Nat) : Int) ∧ w1 = w := by
  refine T35 _ _ _ ?_
  unfold S35 moreL
  refine Br.dec (fun q => ⟨?_, rfl⟩) fun q => Br.dec (fun q2 => ⟨?_, rfl⟩) fun q2 => ⟨?_, rfl⟩
  · rw [if_neg (by omega)]; omega
  · rw [if_pos (by omega)]; rfl
  · rw [if_neg (by omega), i64_id (n := ((257 + k : Nat) : Int) - 261) (by omega), tdiv_id (by omega), i64_id (by omega)]; omega
theorem r_farther {k : Nat} (hk : k ≤ 30) (w : World) : C37 (k : Int) w fun r w1 => r = ((moreD k : Nat) : Int) ∧ w1 = w := by
  refine T37 _ _ _ ?_
  unfold S37 moreD
  refine Br.dec (fun q => ⟨?_, rfl⟩) fun q => ⟨?_, rfl⟩
  · omega
  · rw [i64_id (n := (k : Int) - 2) (by omega), tdiv_id (by omega), i64_id (by omega)]; omega
theorem sh1u {m : Nat} (hm : m ≤ 30) : IntKind.i64.wrap (1 * 2 ^ (min (IntKind.u64.wrap (m : Int)).toNat 64)) = ((2 ^ m : Nat) : Int) := by
  rw [u64_id (by omega)]
  exact sh1 rfl hm
theorem r_Size (sign more : Int) (w : World) : C12 sign more w fun r e w1 => (r, e) = sizeF sign more ∧ Ext (fun _ => False) w w1 := by
  refine T12 _ _ _ _ ?_
  unfold S12 sizeF
  refine Br.dec (fun q => ⟨by rw [if_pos (.inl q)], Ext.refl _ _⟩) fun q => Br.dec (fun q2 => ⟨by rw [if_pos (.inr q2)], Ext.refl _ _⟩) fun q2 => ?_
  obtain ⟨k, rfl⟩ : ∃ k : Nat, sign = ((257 + k : Nat) : Int) := ⟨(sign - 257).toNat, by omega⟩
  rw [if_neg (by omega), show (((257 + k : Nat) : Int) - 257).toNat = k by omega]
  obtain ⟨b1, b2, b3, b4, b5⟩ := base_bd (k := k) (by omega)
  have hp : 2 ^ moreL k ≤ 2 ^ 30 := Nat.pow_le_pow_right (by omega) b4
  have e2 : ((2 ^ moreL k : Nat) : Int) = 2 ^ moreL k := by simp
  refine Br.dec (fun q => ⟨by rw [if_pos (.inl q)], Ext.refl _ _⟩) fun q3 => ?_
  refine (r_longer (k := k) (by omega) w).mono ?_
  rintro r w ⟨rfl, rfl⟩
  refine ⟨by rw [u64_id (by omega)]; omega, ?_⟩
  rw [sh1u b4]
  refine Br.dec (fun q4 => ⟨by rw [if_pos (.inr (by omega))], Ext.refl _ _⟩) fun q4 => ?_
  rw [if_neg (by omega)]
  refine Br.eq (fun q5 => ?_) fun q5 => ?_
  · have : k = 28 := by omega
    subst this
    have e28 : moreL 28 = 0 := rfl
    rw [e28] at q4
    have q4 : ¬ more ≥ 1 := q4
    have : more = 0 := by omega
    subst this
    exact ⟨rfl, Ext.refl _ _⟩
  · have hf : firstL k = baseL k := by unfold firstL; rw [if_neg (by omega)]
    refine ⟨fun n st w3 => ∃ j : Nat, st = (((baseL j : Nat) : Int), ((257 + j : Nat) : Int)) ∧ j ≤ k ∧ n = k - j ∧ w3 = w, k, ⟨0, rfl, by omega, rfl, rfl⟩, ?_⟩
    rintro n st _ ⟨j, rfl, hj, rfl, rfl⟩
    unfold S12L1
    dsimp only
    refine Br.dec (fun q => ?_) fun q => ?_
    · refine (r_longer (k := j) (by omega) _).mono ?_
      rintro r _ ⟨rfl, rfl⟩
      obtain ⟨c1, c2, c3, c4, c5⟩ := base_bd (k := j) (by omega)
      obtain ⟨d1, d2, d3, d4, d5⟩ := base_bd (k := j + 1) (by omega)
      have e : baseL (j + 1) = baseL j + 2 ^ moreL j := by unfold moreL; rw [if_neg (by omega)]; rfl
      refine ⟨by rw [u64_id (by omega)]; omega, Lt.of ?_⟩
      rw [sh1u c4, i64_id (n := ((257 + j : Nat) : Int) + 1) (by omega), i64_id (by omega)]
      exact ⟨k - (j + 1), by omega, j + 1, by rw [e]; simp; omega, by omega, rfl, rfl⟩
    · have : j = k := by omega
      subst this
      rw [i64_id (by omega), hf]
      exact ⟨rfl, Ext.refl _ _⟩
theorem r_Far (sign more : Int) (w : World) : C14 sign more w fun r e w1 => (r, e) = farF sign more ∧ Ext (fun _ => False) w w1 := by
  refine T14 _ _ _ _ ?_
  unfold S14 farF
  refine Br.dec (fun q => ⟨by rw [if_pos (.inl q)], Ext.refl _ _⟩) fun q => Br.dec (fun q2 => ⟨by rw [if_pos (.inr q2)], Ext.refl _ _⟩) fun q2 => ?_
  obtain ⟨k, rfl⟩ : ∃ k : Nat, sign = (k : Int) := ⟨sign.toNat, by omega⟩
  rw [if_neg (by omega), Int.toNat_natCast]
  obtain ⟨b1, b2, b3, b4, b5⟩ := base_bd (k := k) (by omega)
  have hp : 2 ^ moreD k ≤ 2 ^ 30 := Nat.pow_le_pow_right (by omega) b5
  have e2 : ((2 ^ moreD k : Nat) : Int) = 2 ^ moreD k := by simp
  refine Br.dec (fun q => ⟨by rw [if_pos (.inl q)], Ext.refl _ _⟩) fun q3 => ?_
  refine (r_farther (k := k) (by omega) w).mono ?_
  rintro r w ⟨rfl, rfl⟩
  refine ⟨by rw [u64_id (by omega)]; omega, ?_⟩
  rw [sh1u b5]
  refine Br.dec (fun q4 => ⟨by rw [if_pos (.inr (by omega))], Ext.refl _ _⟩) fun q4 => ?_
  rw [if_neg (by omega)]
  refine ⟨fun n st w3 => ∃ j : Nat, st = (((baseD j : Nat) : Int), (j : Int)) ∧ j ≤ k ∧ n = k - j ∧ w3 = w, k, ⟨0, rfl, by omega, rfl, rfl⟩, ?_⟩
  rintro n st _ ⟨j, rfl, hj, rfl, rfl⟩
  unfold S14L1
  dsimp only
  refine Br.dec (fun q => ?_) fun q => ?_
  · refine (r_farther (k := j) (by omega) _).mono ?_
    rintro r _ ⟨rfl, rfl⟩
    obtain ⟨c1, c2, c3, c4, c5⟩ := base_bd (k := j) (by omega)
    obtain ⟨d1, d2, d3, d4, d5⟩ := base_bd (k := j + 1) (by omega)
    have e : baseD (j + 1) = baseD j + 2 ^ moreD j := rfl
    refine ⟨by rw [u64_id (by omega)]; omega, Lt.of ?_⟩
    rw [sh1u c5, i64_id (n := (j : Int) + 1) (by omega), i64_id (by omega)]
    exact ⟨k - (j + 1), by omega, j + 1, by rw [e]; simp, by omega, rfl, rfl⟩
  · have : j = k := by omega
    subst this
    rw [i64_id (by omega)]
    exact ⟨rfl, Ext.refl _ _⟩
end Inf
end Go.Proofs.YtapgacggllbhiaaDoor
