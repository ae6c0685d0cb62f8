/- A stable sort of signs: exchanges of ranges, rotations. Conditions: sizes. -/
import Derived.Test.YtodhdkbhmkinjaaDoorSsB
namespace Go.Proofs.YtodhdkbhmkinjaaDoor
namespace Ssr
open Sh Srt
set_option linter.unusedVariables false
set_option linter.unusedSimpArgs false
set_option maxRecDepth 4000
set_option maxHeartbeats 2000000
attribute [local irreducible] Ld St Nw Nn Lt LdS
section
variable {w w1 : World} {s : Slc} {T : List E} {W : Nat → Int} {c : List Rdg.Sg}
theorem c_swapR {P X Z Y Q : List E} (h : SS w s (P ++ X ++ Z ++ Y ++ Q) c W) {a b n : Nat} (ha : P.length = a) (hb : a + X.length + Z.length = b) (hX : X.length = n) (hY : Y.length = n) (f : Value) :
    C88 s (a : Int) (b : Int) (n : Int) f w fun w1 => Ext s.own w w1 ∧ SS w1 s (P ++ Y ++ Z ++ X ++ Q) c W := by
  refine T88 _ _ _ _ _ _ _ ?_
  unfold S88
  have hbig := h.big
  simp only [List.length_append] at hbig
  refine ⟨fun m st w1 => ∃ i : Nat, st = (i : Int) ∧ i ≤ n ∧ m = n - i ∧ SS w1 s (P ++ Y.take i ++ X.drop i ++ Z ++ X.take i ++ Y.drop i ++ Q) c W ∧ Ext s.own w w1, n, ⟨0, rfl, by omega, rfl, by simpa using h, Ext.refl _ _⟩, ?_⟩
  rintro m st w1 ⟨i, rfl, hi, rfl, H1, e1⟩
  unfold S88L1
  refine Br.dec (fun q => ?_) fun q => ?_
  · have hin : i < n := by omega
    have dX : X.drop i = X[i] :: X.drop (i + 1) := List.drop_eq_getElem_cons (by omega)
    have dY : Y.drop i = Y[i] :: Y.drop (i + 1) := List.drop_eq_getElem_cons (by omega)
    have tX : X.take (i + 1) = X.take i ++ [X[i]] := by rw [List.take_add_one, List.getElem?_eq_getElem (by omega)]; rfl
    have tY : Y.take (i + 1) = Y.take i ++ [Y[i]] := by rw [List.take_add_one, List.getElem?_eq_getElem (by omega)]; rfl
    have lX : (X.take i).length = i := by rw [List.length_take]; omega
    have lY : (Y.take i).length = i := by rw [List.length_take]; omega
    have lD : (X.drop (i + 1)).length = n - (i + 1) := by rw [List.length_drop]; omega
    generalize X[i] = x at dX tX
    generalize Y[i] = y at dY tY
    rw [dX, dY] at H1
    have f1 : P ++ Y.take i ++ (x :: X.drop (i + 1)) ++ Z ++ X.take i ++ (y :: Y.drop (i + 1)) ++ Q = (P ++ Y.take i) ++ x :: (X.drop (i + 1) ++ Z ++ X.take i ++ (y :: Y.drop (i + 1)) ++ Q) := by simp
    have f2 : P ++ Y.take i ++ (x :: X.drop (i + 1)) ++ Z ++ X.take i ++ (y :: Y.drop (i + 1)) ++ Q = (P ++ Y.take i ++ x :: X.drop (i + 1) ++ Z ++ X.take i) ++ y :: (Y.drop (i + 1) ++ Q) := by simp
    have gi : (P ++ Y.take i ++ (x :: X.drop (i + 1)) ++ Z ++ X.take i ++ (y :: Y.drop (i + 1)) ++ Q)[a + i]? = some x := by
      rw [f1]; exact get_mid (by simp [ha, lY])
    have gj : (P ++ Y.take i ++ (x :: X.drop (i + 1)) ++ Z ++ X.take i ++ (y :: Y.drop (i + 1)) ++ Q)[b + i]? = some y := by
      rw [f2]; exact get_mid (by simp only [List.length_append, List.length_cons, lX, lY, lD, ha]; omega)
    rw [i64_id (n := (b : Int) + (i : Int)) (by omega), i64_id (n := (a : Int) + (i : Int)) (by omega)]
    refine H1.step_swap gi gj (by omega) (by omega) (by omega) fun w2 H2 e2 => ?_
    refine ⟨n - (i + 1), by omega, i + 1, by rw [i64_id (by omega)]; rfl, by omega, rfl, ?_, e1.tr e2⟩
    have e : ((P ++ Y.take i ++ (x :: X.drop (i + 1)) ++ Z ++ X.take i ++ (y :: Y.drop (i + 1)) ++ Q).set (a + i) y).set (b + i) x = P ++ Y.take (i + 1) ++ X.drop (i + 1) ++ Z ++ X.take (i + 1) ++ Y.drop (i + 1) ++ Q := by
      rw [f1, set_mid (by simp [ha, lY])]
      rw [show (P ++ Y.take i) ++ y :: (X.drop (i + 1) ++ Z ++ X.take i ++ (y :: Y.drop (i + 1)) ++ Q) = (P ++ Y.take i ++ y :: X.drop (i + 1) ++ Z ++ X.take i) ++ y :: (Y.drop (i + 1) ++ Q) by simp]
      rw [set_mid (by simp only [List.length_append, List.length_cons, lX, lY, lD, ha]; omega), tX, tY]
      simp
    rw [e] at H2
    exact H2
  · have : i = n := by omega
    subst this
    rw [List.take_of_length_le (by omega), List.take_of_length_le (by omega), List.drop_of_length_le (by omega), List.drop_of_length_le (by omega)] at H1
    exact ⟨e1, by simpa using H1⟩
theorem c_rot {P U V Q : List E} (h : SS w s (P ++ U ++ V ++ Q) c W) {a m b : Nat} (ha : P.length = a) (hm : a + U.length = m) (hb : m + V.length = b) (hU : U ≠ []) (hV : V ≠ []) (f : Value) :
    C78 s (a : Int) (m : Int) (b : Int) f w fun w1 => Ext s.own w w1 ∧ SS w1 s (P ++ V ++ U ++ Q) c W := by
  refine T78 _ _ _ _ _ _ _ ?_
  unfold S78
  have hbig := h.big
  simp only [List.length_append] at hbig
  have lU := List.length_pos_iff.2 hU
  have lV := List.length_pos_iff.2 hV
  rw [i64_id (n := (m : Int) - (a : Int)) (by omega), i64_id (n := (b : Int) - (m : Int)) (by omega)]
  refine ⟨fun n st w1 => ∃ (P' X Y Q' : List E), st = ((X.length : Int), (Y.length : Int)) ∧ n = X.length + Y.length ∧ P'.length + X.length = m ∧ 1 ≤ X.length ∧ 1 ≤ Y.length ∧ P' ++ Y ++ X ++ Q' = P ++ V ++ U ++ Q ∧ SS w1 s (P' ++ X ++ Y ++ Q') c W ∧ Ext s.own w w1, U.length + V.length, ⟨P, U, V, Q, by simp only [Prod.mk.injEq]; omega, rfl, by omega, lU, lV, rfl, h, Ext.refl _ _⟩, ?_⟩
  rintro n st w1 ⟨P', X, Y, Q', rfl, rfl, hPX, lX, lY, hend, H1, e1⟩
  unfold S78L1
  dsimp only
  have hlen := congrArg List.length hend
  simp only [List.length_append] at hlen
  rw [i64_id (n := (m : Int) - (X.length : Int)) (by omega), show (m : Int) - (X.length : Int) = ((P'.length : Nat) : Int) by omega]
  refine Br.ne (fun q => Br.dec (fun q2 => ?_) fun q2 => ?_) fun q => ?_
  · obtain ⟨X1, X2, rfl, l1⟩ := cut_at (l := X) (i := Y.length) (by omega)
    simp only [List.length_append] at *
    refine (c_swapR (P := P') (X := X1) (Z := X2) (Y := Y) (Q := Q') (a := P'.length) (b := m) (n := Y.length) (by simpa using H1) rfl (by omega) l1 rfl f).mono ?_
    rintro w2 ⟨e2, H2⟩
    refine ⟨X2.length + X1.length, by omega, P' ++ Y, X2, X1, Q', ?_, rfl, by simp; omega, by omega, by omega, by rw [← hend]; simp, by simpa using H2, e1.tr e2⟩
    rw [i64_id (by omega)]
    simp only [Prod.mk.injEq]
    omega
  · obtain ⟨Y1, Y2, rfl, l1⟩ := cut_at (l := Y) (i := Y.length - X.length) (by omega)
    simp only [List.length_append] at *
    have e3 : IntKind.i64.wrap (IntKind.i64.wrap ((m : Int) + ((Y1.length + Y2.length : Nat) : Int)) - (X.length : Int)) = ((P'.length + X.length + Y1.length : Nat) : Int) := by
      rw [i64_id (n := (m : Int) + ((Y1.length + Y2.length : Nat) : Int)) (by omega), i64_id (by omega)]
      omega
    rw [e3]
    refine (c_swapR (P := P') (X := X) (Z := Y1) (Y := Y2) (Q := Q') (a := P'.length) (b := P'.length + X.length + Y1.length) (n := X.length) (by simpa using H1) rfl rfl rfl (by omega) f).mono ?_
    rintro w2 ⟨e2, H2⟩
    refine ⟨Y2.length + Y1.length, by omega, P', Y2, Y1, X ++ Q', ?_, rfl, by omega, by omega, by omega, by rw [← hend]; simp, by simpa using H2, e1.tr e2⟩
    rw [i64_id (by omega)]
    simp only [Prod.mk.injEq]
    omega
  · have hXY : X.length = Y.length := by omega
    refine (c_swapR (P := P') (X := X) (Z := []) (Y := Y) (Q := Q') (a := P'.length) (b := m) (n := X.length) (by simpa using H1) rfl (by simpa using hPX) rfl hXY.symm f).mono ?_
    rintro w2 ⟨e2, H2⟩
    refine ⟨e1.tr e2, ?_⟩
    rw [← hend]
    simpa using H2
end
end Ssr
end Go.Proofs.YtodhdkbhmkinjaaDoor
