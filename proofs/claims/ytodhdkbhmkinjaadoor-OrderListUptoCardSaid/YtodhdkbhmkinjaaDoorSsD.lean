/- A stable sort of signs: merging by symmetry. Conditions: sizes. -/
import Derived.Test.YtodhdkbhmkinjaaDoorSsC
namespace Go.Proofs.YtodhdkbhmkinjaaDoor
namespace Ssr
open Sh Srt
set_option linter.unusedVariables false
set_option linter.unusedSimpArgs false
set_option maxRecDepth 4000
set_option maxHeartbeats 4000000
theorem pair_eq {α β : Type} {a c : α} {b d : β} (h : a = c) (k : b = d) : (a, b) = (c, d) := by rw [h, k]
theorem u64_id {n : Int} (h : 0 ≤ n ∧ n ≤ 18446744073709551615) : IntKind.u64.wrap n = n := IntWalk.u64_in n h
theorem half {x y : Nat} (h : x + y ≤ 8000000) : IntKind.i64.wrap (Int.fdiv (IntKind.u64.wrap (IntKind.i64.wrap ((x : Int) + (y : Int)))) (2 ^ 1)) = (((x + y) / 2 : Nat) : Int) := by
  rw [i64_id (n := (x : Int) + (y : Int)) (by omega), u64_id (by omega), Bit.fdiv_pow, show (2 : Int) ^ 1 = 2 by decide, i64_id (by omega)]
  omega
theorem so_get {W : Nat → Int} {l : List E} (h : So W l) {i j : Nat} {x y : E} (hi : l[i]? = some x) (hj : l[j]? = some y) (hij : i ≤ j) : W x.1 ≤ W y.1 := by
  by_cases e : i = j
  · subst e
    rw [hi] at hj
    cases hj
    exact Int.le_refl _
  · obtain ⟨li, rfl⟩ := List.getElem?_eq_some_iff.1 hi
    obtain ⟨lj, rfl⟩ := List.getElem?_eq_some_iff.1 hj
    exact le_of_lt (List.pairwise_iff_getElem.1 h i j li lj (by omega))
attribute [local irreducible] Ld St Nw Nn Lt LdS
section
variable {w w1 : World} {s : Slc} {T : List E} {W : Nat → Int} {c : List Rdg.Sg}
abbrev clos (c : List Rdg.Sg) : Value := .func (.func 40) #[] #[]
/-- One element ahead of a row. -/
theorem c_sym1 {P V Q : List E} {u : E} (h : SS w s (P ++ [u] ++ V ++ Q) c W) (hV : So W V) (hT : Tg [u] V) {a b : Nat} (ha : P.length = a) (hb : a + 1 + V.length = b) :
    C61 s (a : Int) ((a + 1 : Nat) : Int) (b : Int) (clos c) w fun w1 => Ext s.own w w1 ∧ ∃ M', M'.Perm ([u] ++ V) ∧ So W M' ∧ SS w1 s (P ++ M' ++ Q) c W := by
  refine T61_F40 _ _ _ _ _ _ ?_
  unfold S61_F40
  have hbig := h.big
  simp only [List.length_append, List.length_singleton] at hbig
  refine Rdg.Br.t (by rw [i64_id (by omega)]; simp; omega) ?_
  have gu : (P ++ [u] ++ V ++ Q)[a]? = some u := by
    rw [show P ++ [u] ++ V ++ Q = P ++ u :: (V ++ Q) by simp]; exact get_mid ha
  have gv : ∀ i v, V[i]? = some v → (P ++ [u] ++ V ++ Q)[a + 1 + i]? = some v := fun i v hi => by
    have li := (List.getElem?_eq_some_iff.1 hi).1
    rw [List.getElem?_append_left (by simp only [List.length_append, List.length_singleton]; omega), List.getElem?_append_right (by simp; omega)]
    rw [show a + 1 + i - (P ++ [u]).length = i by simp; omega]
    exact hi
  refine ⟨fun n st w1 => ∃ p q : Nat, st = (((a + 1 + p : Nat) : Int), ((a + 1 + q : Nat) : Int)) ∧ p ≤ q ∧ q ≤ V.length ∧ n = q - p ∧ (∀ i v, i < p → V[i]? = some v → W v.1 < W u.1) ∧ (∀ i v, q ≤ i → V[i]? = some v → W u.1 ≤ W v.1) ∧ SS w1 s (P ++ [u] ++ V ++ Q) c W ∧ Ext s.own w w1, V.length,
    ⟨0, V.length, pair_eq (by omega) (by omega), by omega, Nat.le_refl _, rfl, fun i v hi => by omega, fun i v hi hv => by have := (List.getElem?_eq_some_iff.1 hv).1; omega, h, Ext.refl _ _⟩, ?_⟩
  rintro n st w1 ⟨p, q, rfl, hpq, hq, rfl, lo, hi, H1, e1⟩
  unfold S61_F40L2
  dsimp only
  refine Br.dec (fun q1 => ?_) fun q1 => ?_
  · rw [half (by omega)]
    obtain ⟨t, ht⟩ : ∃ t, (a + 1 + p + (a + 1 + q)) / 2 = a + 1 + t := ⟨(p + q) / 2, by omega⟩
    have htq : p ≤ t ∧ t < q := by omega
    rw [ht]
    have gt : V[t]? = some V[t] := List.getElem?_eq_getElem (by omega)
    generalize V[t] = v at gt
    refine H1.step_cmp (gv t v gt) gu rfl rfl fun r w2 hr H2 e2 => ?_
    refine Br.dec (fun q2 => Lt.of ?_) fun q2 => ?_
    · have hvu := hr.1 q2
      refine ⟨q - (t + 1), by omega, t + 1, q, ?_, by omega, hq, rfl, fun i x hix hx => ?_, hi, H2, e1.tr e2⟩
      · exact pair_eq (by rw [i64_id (by omega)]; omega) rfl
      · have := so_get hV hx gt (by omega)
        omega
    · have hvu : W u.1 ≤ W v.1 := by
        have := fun h => q2 (hr.2 h)
        omega
      refine ⟨t - p, by omega, p, t, rfl, by omega, by omega, rfl, lo, fun i x hix hx => ?_, H2, e1.tr e2⟩
      have := so_get hV gt hx hix
      omega
  · have hpq2 : p = q := by omega
    subst hpq2
    refine ⟨fun n st w2 => ∃ t : Nat, st = ((a + t : Nat) : Int) ∧ t ≤ p ∧ n = p - t ∧ SS w2 s (P ++ V.take t ++ [u] ++ V.drop t ++ Q) c W ∧ Ext s.own w w2, p, ⟨0, by simp, by omega, rfl, by simpa using H1, e1⟩, ?_⟩
    rintro n st w2 ⟨t, rfl, ht, rfl, H2, e2⟩
    unfold S61_F40L1
    dsimp only
    have lT : (V.take t).length = t := by rw [List.length_take]; omega
    rw [i64_id (n := ((a + 1 + p : Nat) : Int) - 1) (by omega)]
    refine Br.dec (fun q2 => ?_) fun q2 => ?_
    · have htp : t < p := by omega
      have dV : V.drop t = V[t] :: V.drop (t + 1) := List.drop_eq_getElem_cons (by omega)
      have tV : V.take (t + 1) = V.take t ++ [V[t]] := by rw [List.take_add_one, List.getElem?_eq_getElem (by omega)]; rfl
      generalize V[t] = v at dV tV
      rw [dV] at H2
      have f : P ++ V.take t ++ [u] ++ (v :: V.drop (t + 1)) ++ Q = (P ++ V.take t) ++ u :: v :: (V.drop (t + 1) ++ Q) := by simp
      rw [f] at H2
      have lP : (P ++ V.take t).length = a + t := by simp [ha, lT]
      refine H2.step_swap (i := a + t) (j := a + t + 1) (get_mid lP) (by rw [show (P ++ V.take t) ++ u :: v :: (V.drop (t + 1) ++ Q) = (P ++ V.take t ++ [u]) ++ v :: (V.drop (t + 1) ++ Q) by simp]; exact get_mid (by simp [ha, lT]; omega)) (by omega) rfl (by rw [i64_id (by omega)]; omega) fun w3 H3 e3 => ?_
      rw [swap_adj lP] at H3
      refine ⟨p - (t + 1), by omega, t + 1, by rw [i64_id (by omega)]; omega, by omega, rfl, ?_, e2.tr e3⟩
      rw [tV]
      simpa using H3
    · have htp : t = p := by omega
      subst htp
      refine ⟨e2, V.take t ++ u :: V.drop t, ?_, so_put (by rw [List.take_append_drop]; exact hV) (fun y hy => ?_) fun y hy => ?_, by simpa using H2⟩
      · rw [List.singleton_append]
        refine List.perm_middle.trans (List.Perm.cons u ?_)
        rw [List.take_append_drop]
      · obtain ⟨i, hiy⟩ := List.mem_iff_getElem?.1 hy
        rw [List.getElem?_take] at hiy
        split at hiy
        · rename_i hit
          exact .inl (lo i y hit hiy)
        · cases hiy
      · obtain ⟨i, hiy⟩ := List.mem_iff_getElem?.1 hy
        rw [List.getElem?_drop] at hiy
        exact lt_of (hi _ y (by omega) hiy) (hT u (by simp) y (List.mem_of_getElem? hiy))
/-- One element behind a row. -/
theorem c_sym2 {P U Q : List E} {v : E} (h : SS w s (P ++ U ++ [v] ++ Q) c W) (hU : So W U) (hT : Tg U [v]) (hl : U.length ≠ 1) {a m : Nat} (ha : P.length = a) (hm : a + U.length = m) :
    C61 s (a : Int) (m : Int) ((m + 1 : Nat) : Int) (clos c) w fun w1 => Ext s.own w w1 ∧ ∃ M', M'.Perm (U ++ [v]) ∧ So W M' ∧ SS w1 s (P ++ M' ++ Q) c W := by
  refine T61_F40 _ _ _ _ _ _ ?_
  unfold S61_F40
  have hbig := h.big
  simp only [List.length_append, List.length_singleton] at hbig
  refine Rdg.Br.f (by rw [i64_id (by omega)]; simp; omega) (Rdg.Br.t (by rw [i64_id (by omega)]; simp; omega) ?_)
  have gv : (P ++ U ++ [v] ++ Q)[m]? = some v := by
    rw [show P ++ U ++ [v] ++ Q = (P ++ U) ++ v :: Q by simp]; exact get_mid (by simp [ha, hm])
  have gu : ∀ i u, U[i]? = some u → (P ++ U ++ [v] ++ Q)[a + i]? = some u := fun i u hi => by
    have li := (List.getElem?_eq_some_iff.1 hi).1
    rw [List.append_assoc, List.getElem?_append_left (by simp; omega), List.getElem?_append_right (by omega), show a + i - P.length = i by omega]
    exact hi
  refine ⟨fun n st w1 => ∃ p q : Nat, st = (((a + p : Nat) : Int), ((a + q : Nat) : Int)) ∧ p ≤ q ∧ q ≤ U.length ∧ n = q - p ∧ (∀ i u, i < p → U[i]? = some u → W u.1 ≤ W v.1) ∧ (∀ i u, q ≤ i → U[i]? = some u → W v.1 < W u.1) ∧ SS w1 s (P ++ U ++ [v] ++ Q) c W ∧ Ext s.own w w1, U.length,
    ⟨0, U.length, pair_eq (by omega) (by omega), by omega, Nat.le_refl _, rfl, fun i v hi => by omega, fun i v hi hv => by have := (List.getElem?_eq_some_iff.1 hv).1; omega, h, Ext.refl _ _⟩, ?_⟩
  rintro n st w1 ⟨p, q, rfl, hpq, hq, rfl, lo, hi, H1, e1⟩
  unfold S61_F40L4
  dsimp only
  refine Br.dec (fun q1 => ?_) fun q1 => ?_
  · rw [half (by omega)]
    obtain ⟨t, ht⟩ : ∃ t, (a + p + (a + q)) / 2 = a + t := ⟨(p + q) / 2, by omega⟩
    have htq : p ≤ t ∧ t < q := by omega
    rw [ht]
    have gt : U[t]? = some U[t] := List.getElem?_eq_getElem (by omega)
    generalize U[t] = u at gt
    refine H1.step_cmp gv (gu t u gt) rfl rfl fun r w2 hr H2 e2 => ?_
    by_cases q2 : r < 0
    · have hvu := hr.1 q2
      refine Rdg.Br.f (by simp [q2]) ⟨t - p, by omega, p, t, rfl, by omega, by omega, rfl, lo, fun i x hix hx => ?_, H2, e1.tr e2⟩
      have := so_get hU gt hx hix
      omega
    · have hvu : W u.1 ≤ W v.1 := by
        have := fun h => q2 (hr.2 h)
        omega
      refine Rdg.Br.t (by simp [q2]) (Lt.of ⟨q - (t + 1), by omega, t + 1, q, ?_, by omega, hq, rfl, fun i x hix hx => ?_, hi, H2, e1.tr e2⟩)
      · exact pair_eq (by rw [i64_id (by omega)]; omega) rfl
      · have := so_get hU hx gt (by omega)
        omega
  · have hpq2 : p = q := by omega
    subst hpq2
    refine ⟨fun n st w2 => ∃ t : Nat, st = ((a + t : Nat) : Int) ∧ p ≤ t ∧ t ≤ U.length ∧ n = t - p ∧ SS w2 s (P ++ U.take t ++ [v] ++ U.drop t ++ Q) c W ∧ Ext s.own w w2, U.length - p, ⟨U.length, by omega, by omega, Nat.le_refl _, rfl, by simpa using H1, e1⟩, ?_⟩
    rintro n st w2 ⟨t, rfl, hpt, ht, rfl, H2, e2⟩
    unfold S61_F40L3
    dsimp only
    refine Br.dec (fun q2 => ?_) fun q2 => ?_
    · obtain ⟨t, rfl⟩ : ∃ t', t = t' + 1 := ⟨t - 1, by omega⟩
      have lT : (U.take t).length = t := by rw [List.length_take]; omega
      have dU : U.drop t = U[t] :: U.drop (t + 1) := List.drop_eq_getElem_cons (by omega)
      have tU : U.take (t + 1) = U.take t ++ [U[t]] := by rw [List.take_add_one, List.getElem?_eq_getElem (by omega)]; rfl
      generalize U[t] = u at dU tU
      rw [tU] at H2
      have f : P ++ (U.take t ++ [u]) ++ [v] ++ U.drop (t + 1) ++ Q = (P ++ U.take t) ++ u :: v :: (U.drop (t + 1) ++ Q) := by simp
      rw [f] at H2
      have lP : (P ++ U.take t).length = a + t := by simp [ha, lT]
      refine H2.step_swap (i := a + t + 1) (j := a + t) (by rw [show (P ++ U.take t) ++ u :: v :: (U.drop (t + 1) ++ Q) = (P ++ U.take t ++ [u]) ++ v :: (U.drop (t + 1) ++ Q) by simp]; exact get_mid (by simp [ha, lT]; omega)) (get_mid lP) (by omega) (by omega) (by rw [i64_id (by omega)]; omega) fun w3 H3 e3 => ?_
      rw [swap_adj' lP] at H3
      refine ⟨t - p, by omega, t, by rw [i64_id (by omega)]; omega, by omega, by omega, rfl, ?_, e2.tr e3⟩
      rw [dU]
      simpa using H3
    · have htp : t = p := by omega
      subst htp
      refine ⟨e2, U.take t ++ v :: U.drop t, ?_, so_put (by rw [List.take_append_drop]; exact hU) (fun y hy => ?_) fun y hy => ?_, by simpa using H2⟩
      · refine (List.perm_middle.trans (List.Perm.cons v ?_)).trans (List.perm_append_singleton v U).symm
        rw [List.take_append_drop]
      · obtain ⟨i, hiy⟩ := List.mem_iff_getElem?.1 hy
        rw [List.getElem?_take] at hiy
        split at hiy
        · rename_i hit
          exact lt_of (lo i y hit hiy) (hT y (List.mem_of_getElem? hiy) v (by simp))
        · cases hiy
      · obtain ⟨i, hiy⟩ := List.mem_iff_getElem?.1 hy
        rw [List.getElem?_drop] at hiy
        exact .inl (hi _ y (by omega) hiy)
end
end Ssr
end Go.Proofs.YtodhdkbhmkinjaaDoor
