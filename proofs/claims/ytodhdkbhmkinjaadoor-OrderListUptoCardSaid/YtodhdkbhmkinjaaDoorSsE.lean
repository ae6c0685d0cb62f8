/- A stable sort of signs: merging by symmetry, any two rows. Conditions: sizes. -/
import Derived.Test.YtodhdkbhmkinjaaDoorSsD
namespace Go.Proofs.YtodhdkbhmkinjaaDoor
namespace Ssr
open Sh Srt
set_option linter.unusedVariables false
set_option linter.unusedSimpArgs false
set_option maxRecDepth 4000
set_option maxHeartbeats 4000000
attribute [local irreducible] Ld St Nw Nn Lt LdS
theorem get_app4 {A B C D : List E} {i j : Nat} {x : E} (h : B[j]? = some x) (hi : A.length + j = i) : (A ++ B ++ C ++ D)[i]? = some x := by
  have lj := (List.getElem?_eq_some_iff.1 h).1
  rw [List.append_assoc, List.append_assoc, List.getElem?_append_right (by omega), List.getElem?_append_left (by omega), show i - A.length = j by omega]
  exact h
theorem get_app4' {A B C D : List E} {i j : Nat} {x : E} (h : C[j]? = some x) (hi : A.length + B.length + j = i) : (A ++ B ++ C ++ D)[i]? = some x := by
  have lj := (List.getElem?_eq_some_iff.1 h).1
  rw [List.append_assoc, List.getElem?_append_right (by rw [List.length_append]; omega), List.getElem?_append_left (by rw [List.length_append]; omega), List.length_append, show i - (A.length + B.length) = j by omega]
  exact h
section
variable {w w1 : World} {s : Slc} {T : List E} {W : Nat → Int} {c : List Rdg.Sg}
theorem last_of {l : List E} {k : Nat} {x : E} (h : l[k]? = some x) : ∃ A, l.take (k + 1) = A ++ [x] := ⟨l.take k, by rw [List.take_add_one, h]; rfl⟩
theorem first_of {l : List E} {k : Nat} {x : E} (h : l[k]? = some x) : ∃ B, l.drop k = x :: B := by
  obtain ⟨lk, rfl⟩ := List.getElem?_eq_some_iff.1 h
  exact ⟨l.drop (k + 1), List.drop_eq_getElem_cons lk⟩
theorem c_sym : ∀ (N : Nat) {w : World} {P U V Q : List E} {a m b : Nat}, SS w s (P ++ U ++ V ++ Q) c W → So W U → So W V → Tg U V → U ≠ [] → V ≠ [] → P.length = a → a + U.length = m → m + V.length = b → U.length + V.length ≤ N →
    C61 s (a : Int) (m : Int) (b : Int) (clos c) w fun w1 => Ext s.own w w1 ∧ ∃ M', M'.Perm (U ++ V) ∧ So W M' ∧ SS w1 s (P ++ M' ++ Q) c W
  | 0, w, P, U, V, Q, a, m, b, _, _, _, _, hU0, _, _, _, _, hN => absurd (List.eq_nil_of_length_eq_zero (by omega)) hU0
  | N + 1, w, P, U, V, Q, a, m, b, h, hU, hV, hT, hU0, hV0, ha, hm, hb, hN => by
    have lU := List.length_pos_iff.2 hU0
    have lV := List.length_pos_iff.2 hV0
    by_cases u1 : U.length = 1
    · obtain ⟨u, rfl⟩ : ∃ u, U = [u] := by
        match U, u1 with
        | [u], _ => exact ⟨u, rfl⟩
      have := c_sym1 (u := u) h hV hT ha (b := b) (by simp at hm; omega)
      simp only [List.length_singleton] at hm
      rw [hm] at this
      exact this
    by_cases v1 : V.length = 1
    · obtain ⟨v, rfl⟩ : ∃ v, V = [v] := by
        match V, v1 with
        | [v], _ => exact ⟨v, rfl⟩
      have := c_sym2 (v := v) h hU hT u1 ha hm
      simp only [List.length_singleton] at hb
      rw [hb] at this
      exact this
    refine T61_F40 _ _ _ _ _ _ ?_
    unfold S61_F40
    have hbig := h.big
    simp only [List.length_append] at hbig
    refine Rdg.Br.f (by rw [i64_id (by omega)]; simp; omega) (Rdg.Br.f (by rw [i64_id (by omega)]; simp; omega) (Lt.of ?_))
    rw [half (by omega)]
    obtain ⟨mid, hmid⟩ : ∃ mid, (a + b) / 2 = mid := ⟨_, rfl⟩
    rw [hmid]
    have hm1 : a < mid ∧ mid < b := by omega
    rw [i64_id (n := (mid : Int) + (m : Int)) (by omega)]
    -- the search
    obtain ⟨lo, hi, hlohi, hlo1, hlo2, hhi1, hhi2⟩ : ∃ lo hi : Nat, (lo, hi) = (if m > mid then (mid + m - b, mid) else (a, m)) ∧ a ≤ lo ∧ mid + m - b ≤ lo ∧ hi ≤ mid ∧ hi ≤ m := by
      by_cases q : m > mid
      · exact ⟨_, _, by rw [if_pos q], by omega, by omega, by omega, by omega⟩
      · exact ⟨_, _, by rw [if_neg q], by omega, by omega, by omega, by omega⟩
    have hle : lo ≤ hi := by
      by_cases q : m > mid
      · rw [if_pos q] at hlohi
        cases hlohi
        omega
      · rw [if_neg q] at hlohi
        cases hlohi
        omega
    refine ⟨fun (st : Int × Int) w1 => st = ((lo : Int), (hi : Int)) ∧ w1 = w, ?_, ?_⟩
    rotate_left
    · refine Lt.of ?_
      by_cases q : m > mid
      · rw [if_pos q] at hlohi
        cases hlohi
        refine Rdg.Br.t (by simp; omega) ⟨pair_eq (by rw [i64_id (by omega)]; omega) rfl, rfl⟩
      · rw [if_neg q] at hlohi
        cases hlohi
        exact Rdg.Br.f (by simp; omega) ⟨rfl, rfl⟩
    rintro st w0 ⟨rfl, rfl⟩
    unfold S61_F40J3
    dsimp only
    have gU : ∀ k, lo ≤ k → k < hi → ∃ x, U[k - a]? = some x ∧ (P ++ U ++ V ++ Q)[k]? = some x := fun k h1 h2 => by
      have hk : k - a < U.length := by omega
      exact ⟨_, List.getElem?_eq_getElem hk, get_app4 (List.getElem?_eq_getElem hk) (by omega)⟩
    have gV : ∀ k, lo ≤ k → k < hi → ∃ y, V[mid - 1 - k]? = some y ∧ (P ++ U ++ V ++ Q)[mid + m - 1 - k]? = some y := fun k h1 h2 => by
      have hk : mid - 1 - k < V.length := by omega
      exact ⟨_, List.getElem?_eq_getElem hk, get_app4' (List.getElem?_eq_getElem hk) (by omega)⟩
    refine ⟨fun n st w1 => ∃ p q : Nat, st = ((p : Int), (q : Int)) ∧ lo ≤ p ∧ p ≤ q ∧ q ≤ hi ∧ n = q - p ∧ (∀ k x y, lo ≤ k → k < p → U[k - a]? = some x → V[mid - 1 - k]? = some y → W x.1 ≤ W y.1) ∧ (∀ k x y, q ≤ k → k < hi → U[k - a]? = some x → V[mid - 1 - k]? = some y → W y.1 < W x.1) ∧ SS w1 s (P ++ U ++ V ++ Q) c W ∧ Ext s.own w0 w1, hi - lo,
      ⟨lo, hi, rfl, Nat.le_refl _, hle, Nat.le_refl _, rfl, fun k x y h1 h2 => by omega, fun k x y h1 h2 => by omega, h, Ext.refl _ _⟩, ?_⟩
    rintro n st w1 ⟨p, q, rfl, hp1, hpq, hq1, rfl, below, above, H1, e1⟩
    unfold S61_F40L5
    dsimp only
    refine Br.dec (fun q1 => Lt.of ?_) fun q1 => ?_
    · rw [half (by omega)]
      obtain ⟨t, ht⟩ : ∃ t, (p + q) / 2 = t := ⟨_, rfl⟩
      rw [ht]
      have htq : p ≤ t ∧ t < q := by omega
      obtain ⟨x, hx, gx⟩ := gU t (by omega) (by omega)
      obtain ⟨y, hy, gy⟩ := gV t (by omega) (by omega)
      have ec : IntKind.i64.wrap (IntKind.i64.wrap ((mid : Int) + (m : Int) - 1) - (t : Int)) = ((mid + m - 1 - t : Nat) : Int) := by
        rw [i64_id (n := (mid : Int) + (m : Int) - 1) (by omega), i64_id (by omega)]
        omega
      refine H1.step_cmp gy gx ec rfl fun r w2 hr H2 e2 => ?_
      by_cases q2 : r < 0
      · have hyx := hr.1 q2
        refine Rdg.Br.f (by simp [q2]) ⟨t - p, by omega, p, t, rfl, hp1, by omega, by omega, rfl, below, fun k x' y' h1 h2 hx' hy' => ?_, H2, e1.tr e2⟩
        have a1 := so_get hU hx hx' (by omega)
        have a2 := so_get hV hy' hy (by omega)
        omega
      · have hxy : W x.1 ≤ W y.1 := by
          have := fun h => q2 (hr.2 h)
          omega
        refine Rdg.Br.t (by simp [q2]) ⟨q - (t + 1), by omega, t + 1, q, pair_eq (by rw [i64_id (by omega)]; omega) rfl, by omega, by omega, hq1, rfl, fun k x' y' h1 h2 hx' hy' => ?_, above, H2, e1.tr e2⟩
        have a1 := so_get hU hx' hx (by omega)
        have a2 := so_get hV hy hy' (by omega)
        omega
    · have : p = q := by omega
      subst this
      have hend : IntKind.i64.wrap ((mid : Int) + (m : Int) - (p : Int)) = ((mid + m - p : Nat) : Int) := by rw [i64_id (by omega)]; omega
      rw [hend]
      obtain ⟨U1, U2, eU, lU1⟩ := cut_at (l := U) (i := p - a) (by omega)
      obtain ⟨V1, V2, eV, lV1⟩ := cut_at (l := V) (i := mid - p) (by omega)
      have lU2 : U2.length = m - p := by have := congrArg List.length eU; rw [List.length_append] at this; omega
      have lV2 : V2.length = b - (mid + m - p) := by have := congrArg List.length eV; rw [List.length_append] at this; omega
      have tU : U.take (p - a) = U1 := by rw [eU, ← lU1]; simp
      have dU : U.drop (p - a) = U2 := by rw [eU, ← lU1]; simp
      have tV : V.take (mid - p) = V1 := by rw [eV, ← lV1]; simp
      have dV : V.drop (mid - p) = V2 := by rw [eV, ← lV1]; simp
      have cross : ∀ x ∈ U1 ++ V1, ∀ y ∈ U2 ++ V2, lt W x y := by
        refine sym_cross (by rw [← eU]; exact hU) (by rw [← eV]; exact hV) (by rw [← eU, ← eV]; exact hT) ?_ ?_
        · by_cases hpl : p = lo
          · by_cases q : m > mid
            · rw [if_pos q] at hlohi
              cases hlohi
              exact .inr (.inl (List.eq_nil_of_length_eq_zero (by omega)))
            · rw [if_neg q] at hlohi
              cases hlohi
              exact .inl (List.eq_nil_of_length_eq_zero (by omega))
          · refine .inr (.inr ?_)
            obtain ⟨x, hx, _⟩ := gU (p - 1) (by omega) (by omega)
            obtain ⟨y, hy, _⟩ := gV (p - 1) (by omega) (by omega)
            obtain ⟨A, hA⟩ := last_of hx
            obtain ⟨B, hB⟩ := first_of hy
            rw [show p - 1 - a + 1 = p - a by omega, tU] at hA
            rw [show mid - 1 - (p - 1) = mid - p by omega, dV] at hB
            exact ⟨A, x, y, B, hA, hB, below (p - 1) x y (by omega) (by omega) hx hy⟩
        · by_cases hph : p = hi
          · by_cases q : m > mid
            · rw [if_pos q] at hlohi
              cases hlohi
              exact .inl (List.eq_nil_of_length_eq_zero (by omega))
            · rw [if_neg q] at hlohi
              cases hlohi
              exact .inr (.inl (List.eq_nil_of_length_eq_zero (by omega)))
          · refine .inr (.inr ?_)
            obtain ⟨x, hx, _⟩ := gU p (by omega) (by omega)
            obtain ⟨y, hy, _⟩ := gV p (by omega) (by omega)
            obtain ⟨A, hA⟩ := last_of hy
            obtain ⟨B, hB⟩ := first_of hx
            rw [show mid - 1 - p + 1 = mid - p by omega, tV] at hA
            rw [dU] at hB
            exact ⟨A, y, x, B, hA, hB, above p x y (by omega) (by omega) hx hy⟩
      subst eU eV
      simp only [List.length_append] at *
      obtain ⟨sU1, sU2, _⟩ := so_app.1 hU
      obtain ⟨sV1, sV2, _⟩ := so_app.1 hV
      have T1 : Tg U1 V1 := hT.sub (fun a ha => List.mem_append_left _ ha) (fun a ha => List.mem_append_left _ ha)
      have T2 : Tg U2 V2 := hT.sub (fun a ha => List.mem_append_right _ ha) (fun a ha => List.mem_append_right _ ha)
      refine ⟨fun (_ : Unit) w2 => SS w2 s (P ++ U1 ++ V1 ++ (U2 ++ V2 ++ Q)) c W ∧ Ext s.own w0 w2, ?_, ?_⟩
      rotate_left
      · by_cases q2 : p < m ∧ m < mid + m - p
        · refine Rdg.Br.t (by simp; omega) (Rdg.Br.t (by simp; omega) ?_)
          refine (c_rot (P := P ++ U1) (U := U2) (V := V1) (Q := V2 ++ Q) (by simpa using H1) (by simp; omega) (by omega) (by omega) (by intro e; rw [e] at lU2; simp at lU2; omega) (by intro e; rw [e] at lV1; simp at lV1; omega) _).mono ?_
          rintro w2 ⟨e2, H2⟩
          exact ⟨by simpa using H2, e1.tr e2⟩
        · have hnil : U2 = [] ∨ V1 = [] := by
            rcases Nat.lt_or_ge p m with h1 | h1
            · exact .inr (List.eq_nil_of_length_eq_zero (by omega))
            · exact .inl (List.eq_nil_of_length_eq_zero (by omega))
          have H1' : SS w1 s (P ++ U1 ++ V1 ++ (U2 ++ V2 ++ Q)) c W := by
            rcases hnil with e | e
            · rw [e] at H1 ⊢; simpa using H1
            · rw [e] at H1 ⊢; simpa using H1
          refine Br.dec (fun q3 => Br.dec (fun q4 => by omega) fun q4 => ⟨H1', e1⟩) fun q3 => ⟨H1', e1⟩
      rintro _ w2 ⟨H2, e2⟩
      unfold S61_F40J2
      dsimp only
      rw [half (by omega), hmid]
      refine ⟨fun (_ : Unit) w3 => Ext s.own w0 w3 ∧ ∃ M1, M1.Perm (U1 ++ V1) ∧ So W M1 ∧ SS w3 s (P ++ M1 ++ (U2 ++ V2 ++ Q)) c W, ?_, ?_⟩
      rotate_left
      · by_cases q2 : a < p ∧ p < mid
        · refine Rdg.Br.t (by simp; omega) (Lt.of (Rdg.Br.t (by simp; omega) ?_))
          refine (c_sym N (P := P) (U := U1) (V := V1) (Q := U2 ++ V2 ++ Q) (a := a) (m := p) (b := mid) H2 sU1 sV1 T1 (by intro e; rw [e] at lU1; simp at lU1; omega) (by intro e; rw [e] at lV1; simp at lV1; omega) ha (by omega) (by omega) (by omega)).mono ?_
          rintro w3 ⟨e3, M1, p1, s1, H3⟩
          exact ⟨e2.tr e3, M1, p1, s1, H3⟩
        · have hs : So W (U1 ++ V1) := by
            rcases Nat.lt_or_ge a p with h1 | h1
            · have : V1 = [] := List.eq_nil_of_length_eq_zero (by omega)
              rw [this]; simpa using sU1
            · have : U1 = [] := List.eq_nil_of_length_eq_zero (by omega)
              rw [this]; simpa using sV1
          refine Br.dec (fun q3 => Lt.of (Br.dec (fun q4 => by omega) fun q4 => ⟨e2, U1 ++ V1, .refl _, hs, by simpa using H2⟩)) fun q3 => ⟨e2, U1 ++ V1, .refl _, hs, by simpa using H2⟩
      rintro _ w3 ⟨e3, M1, p1, s1, H3⟩
      unfold S61_F40J1
      dsimp only
      rw [half (by omega), hmid, hend]
      have lM1 : M1.length = mid - a := by rw [p1.length_eq, List.length_append]; omega
      have fin : ∀ w4, Ext s.own w0 w4 → ∀ M2, M2.Perm (U2 ++ V2) → So W M2 → SS w4 s (P ++ M1 ++ M2 ++ Q) c W → Ext s.own w0 w4 ∧ ∃ M', M'.Perm (U1 ++ U2 ++ (V1 ++ V2)) ∧ So W M' ∧ SS w4 s (P ++ M' ++ Q) c W := fun w4 e4 M2 p2 s2 H4 => by
        refine ⟨e4, M1 ++ M2, ?_, so_app.2 ⟨s1, s2, fun x hx y hy => cross x (p1.mem_iff.1 hx) y (p2.mem_iff.1 hy)⟩, by simpa using H4⟩
        refine (p1.append p2).trans ?_
        have : (V1 ++ (U2 ++ V2)).Perm (U2 ++ (V1 ++ V2)) := by
          rw [← List.append_assoc, ← List.append_assoc]
          exact List.Perm.append_right _ List.perm_append_comm
        simpa using List.Perm.append_left U1 this
      by_cases q2 : mid < mid + m - p ∧ mid + m - p < b
      · refine Lt.of (Rdg.Br.t (by simp; omega) (Rdg.Br.t (by simp; omega) ?_))
        refine (c_sym N (P := P ++ M1) (U := U2) (V := V2) (Q := Q) (a := mid) (m := mid + m - p) (b := b) (by simpa using H3) sU2 sV2 T2 (by intro e; rw [e] at lU2; simp at lU2; omega) (by intro e; rw [e] at lV2; simp at lV2; omega) (by rw [List.length_append]; omega) (by omega) (by omega) (by omega)).mono ?_
        rintro w4 ⟨e4, M2, p2, s2, H4⟩
        exact fin w4 (e3.tr e4) M2 p2 s2 H4
      · have hs : So W (U2 ++ V2) := by
          rcases Nat.lt_or_ge mid (mid + m - p) with h1 | h1
          · have : V2 = [] := List.eq_nil_of_length_eq_zero (by omega)
            rw [this]; simpa using sU2
          · have : U2 = [] := List.eq_nil_of_length_eq_zero (by omega)
            rw [this]; simpa using sV2
        have F := fin w3 e3 (U2 ++ V2) (.refl _) hs (by simpa using H3)
        refine Lt.of (Br.dec (fun q3 => Br.dec (fun q4 => by omega) fun q4 => F) fun q3 => F)
end
end Ssr
end Go.Proofs.YtodhdkbhmkinjaaDoor
