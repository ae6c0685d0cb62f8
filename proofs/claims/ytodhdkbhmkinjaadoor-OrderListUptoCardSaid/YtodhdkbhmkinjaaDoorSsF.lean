/- A stable sort of signs: the whole sort. Conditions: sizes. -/
import Derived.Test.YtodhdkbhmkinjaaDoorSsE
namespace Go.Proofs.YtodhdkbhmkinjaaDoor
namespace Ssr
open Sh Srt
set_option linter.unusedVariables false
set_option linter.unusedSimpArgs false
set_option maxRecDepth 4000
set_option maxHeartbeats 4000000
attribute [local irreducible] Ld St Nw Nn Lt LdS
theorem Sz.tail {bs : Nat} {B C : List E} {r : List (List E)} (h : Sz bs (B :: C :: r)) : Sz bs r := by
  match r, h with
  | [], _ => trivial
  | D :: r, h => exact h.2.2
theorem flat_snoc (Ms : List (List E)) (M : List E) : (Ms ++ [M]).flatten = Ms.flatten ++ M := by simp
section
variable {w w1 : World} {s : Slc} {T : List E} {W : Nat → Int} {c : List Rdg.Sg}
theorem c_stable (h : SS w s T c W) (hT : T.Pairwise fun x y => x.2 < y.2) : C53 s ((T.length : Nat) : Int) (clos c) w fun w1 => Ext s.own w w1 ∧ ∃ T', T'.Perm T ∧ So W T' ∧ SS w1 s T' c W := by
  refine T53_F40 _ _ _ _ ?_
  unfold S53_F40
  have hbig := h.big
  have tagged : ∀ k x y, x ∈ T.take k → y ∈ T.drop k → x.2 < y.2 := fun k x y hx hy => by
    have := hT
    rw [← List.take_append_drop k T] at this
    exact (List.pairwise_append.1 this).2.2 x hx y hy
  refine ⟨fun n st w1 => ∃ (k : Nat) (Ms : List (List E)), st = (((20 * k : Nat) : Int), ((20 * k + 20 : Nat) : Int)) ∧ 20 * k ≤ T.length ∧ n = T.length - 20 * k ∧ (∀ M ∈ Ms, M.length = 20) ∧ Bk W Ms ∧ Ms.flatten.Perm (T.take (20 * k)) ∧ SS w1 s (Ms.flatten ++ T.drop (20 * k)) c W ∧ Ext s.own w w1, T.length,
    ⟨0, [], rfl, by omega, rfl, fun M hM => (by cases hM), ⟨fun B hB => (by cases hB), List.Pairwise.nil⟩, by simp, by simpa using h, Ext.refl _ _⟩, ?_⟩
  rintro n st w1 ⟨k, Ms, rfl, hk, rfl, hM, hB, hp, H1, e1⟩
  unfold S53_F40L3
  dsimp only
  have lMs : Ms.flatten.length = 20 * k := by rw [hp.length_eq, List.length_take]; omega
  have tgM : ∀ M', (∀ x ∈ M', x ∈ T.drop (20 * k)) → ∀ A ∈ Ms, Tg A M' := fun M' hM' A hA a ha b hb => tagged (20 * k) a b (hp.mem_iff.1 (List.mem_flatten.2 ⟨A, hA, ha⟩)) (hM' b hb)
  refine Br.dec (fun q => ?_) fun q => ?_
  · have hsplit : T.drop (20 * k) = (T.drop (20 * k)).take 20 ++ T.drop (20 * k + 20) := by
      rw [← List.drop_drop, List.take_append_drop]
    have lM : ((T.drop (20 * k)).take 20).length = 20 := by rw [List.length_take, List.length_drop]; omega
    have hTM : ((T.drop (20 * k)).take 20).Pairwise fun x y => x.2 < y.2 := (hT.drop).take
    have htk : T.take (20 * k + 20) = T.take (20 * k) ++ (T.drop (20 * k)).take 20 := List.take_add
    have hsub : ∀ x ∈ (T.drop (20 * k)).take 20, x ∈ T.drop (20 * k) := fun x hx => List.mem_of_mem_take hx
    rw [hsplit, ← List.append_assoc] at H1
    generalize (T.drop (20 * k)).take 20 = M at *
    refine (c_ins (P := Ms.flatten) (M := M) (Q := T.drop (20 * k + 20)) H1 hTM lMs (by omega)).mono ?_
    rintro w2 ⟨e2, M', pM, sM, H2⟩
    have ek : 20 * (k + 1) = 20 * k + 20 := by omega
    refine ⟨T.length - 20 * (k + 1), by omega, k + 1, Ms ++ [M'], pair_eq (by omega) (by rw [i64_id (by omega)]; omega), by omega, rfl, fun X hX => ?_, ⟨fun X hX => ?_, ?_⟩, ?_, ?_, e1.tr e2⟩
    · rcases List.mem_append.1 hX with hX | hX
      · exact hM X hX
      · rw [List.mem_singleton.1 hX, pM.length_eq, lM]
    · rcases List.mem_append.1 hX with hX | hX
      · exact hB.so X hX
      · rw [List.mem_singleton.1 hX]; exact sM
    · refine List.pairwise_append.2 ⟨hB.tg, List.pairwise_singleton _ _, fun A hA X hX => ?_⟩
      rw [List.mem_singleton.1 hX]
      exact tgM M' (fun x hx => hsub x (pM.mem_iff.1 hx)) A hA
    · rw [flat_snoc, ek, htk]
      exact hp.append pM
    · rw [flat_snoc, ek]
      exact H2
  · refine (c_ins (P := Ms.flatten) (M := T.drop (20 * k)) (Q := []) (by simpa using H1) (hT.drop) lMs (b := T.length) (by rw [List.length_drop]; omega)).mono ?_
    rintro w2 ⟨e2, M', pM, sM, H2⟩
    have lM' : M'.length = T.length - 20 * k := by rw [pM.length_eq, List.length_drop]
    obtain ⟨Bs, hfl, hsz, hbk⟩ : ∃ Bs, Bs.flatten = Ms.flatten ++ M' ∧ Sz 20 Bs ∧ Bk W Bs := by
      by_cases hnil : M' = []
      · refine ⟨Ms, by rw [hnil]; simp, ?_, hB⟩
        have := Sz.app (bs := 20) (Rs := []) hM trivial (by decide)
        simpa using this
      · refine ⟨Ms ++ [M'], flat_snoc _ _, Sz.app hM ⟨List.length_pos_iff.2 hnil, by omega⟩ (by decide), ⟨fun X hX => ?_, ?_⟩⟩
        · rcases List.mem_append.1 hX with hX | hX
          · exact hB.so X hX
          · rw [List.mem_singleton.1 hX]; exact sM
        · refine List.pairwise_append.2 ⟨hB.tg, List.pairwise_singleton _ _, fun A hA X hX => ?_⟩
          rw [List.mem_singleton.1 hX]
          exact tgM M' (fun x hx => pM.mem_iff.1 hx) A hA
    have hperm : Bs.flatten.Perm T := by
      rw [hfl]
      have := hp.append pM
      rwa [List.take_append_drop] at this
    have H2 : SS w2 s Bs.flatten c W := by rw [hfl]; simpa using H2
    refine ⟨fun n st w1 => ∃ (bs : Nat) (Bs : List (List E)), st = ((bs : Nat) : Int) ∧ 20 ≤ bs ∧ bs ≤ 2 * T.length + 20 ∧ n = T.length - bs ∧ Sz bs Bs ∧ Bk W Bs ∧ Bs.flatten.Perm T ∧ SS w1 s Bs.flatten c W ∧ Ext s.own w w1, T.length - 20, ⟨20, Bs, rfl, by omega, by omega, rfl, hsz, hbk, hperm, H2, e1.tr e2⟩, ?_⟩
    clear hperm H2 hsz hbk hfl e2 H1 e1
    rintro n st w3 ⟨bs, Bs, rfl, hb20, hbT, rfl, hsz, hbk, hperm, H3, e3⟩
    unfold S53_F40L2
    refine Br.dec (fun q2 => ?_) fun q2 => ⟨e3, _, hperm, hbk.done hsz (by omega) (by rw [hperm.length_eq]; omega), H3⟩
    rw [i64_id (n := 2 * (bs : Int)) (by omega)]
    refine ⟨fun n st w1 => ∃ (Ms Rs : List (List E)), st = (((Ms.length * (2 * bs) : Nat) : Int), ((Ms.length * (2 * bs) + 2 * bs : Nat) : Int)) ∧ n = Rs.length ∧ (∀ M ∈ Ms, M.length = 2 * bs) ∧ Sz bs Rs ∧ Bk W (Ms ++ Rs) ∧ (Ms ++ Rs).flatten.Perm T ∧ SS w1 s (Ms ++ Rs).flatten c W ∧ Ext s.own w w1, Bs.length,
      ⟨[], Bs, pair_eq (by simp) (by simp), rfl, fun M hM => (by cases hM), hsz, hbk, hperm, H3, e3⟩, ?_⟩
    clear hperm H3 hsz hbk e3
    rintro n st w4 ⟨Ms, Rs, rfl, rfl, hM, hsz, hbk, hperm, H4, e4⟩
    unfold S53_F40L1
    dsimp only
    have lMs := flat_full hM
    have ltot : Ms.flatten.length + Rs.flatten.length = T.length := by rw [← List.length_append, ← List.flatten_append]; exact hperm.length_eq
    have hb0 : 1 ≤ bs := by omega
    have fin : ∀ (w5 : World) (Rs' : List (List E)), Sz (2 * bs) Rs' → Bk W (Ms ++ Rs') → (Ms ++ Rs').flatten.Perm T → SS w5 s (Ms ++ Rs').flatten c W → Ext s.own w w5 → ∃ n', n' < T.length - bs ∧ ∃ (bs' : Nat) (Bs : List (List E)), IntKind.i64.wrap ((bs : Int) * 2) = ((bs' : Nat) : Int) ∧ 20 ≤ bs' ∧ bs' ≤ 2 * T.length + 20 ∧ n' = T.length - bs' ∧ Sz bs' Bs ∧ Bk W Bs ∧ Bs.flatten.Perm T ∧ SS w5 s Bs.flatten c W ∧ Ext s.own w w5 :=
      fun w5 Rs' z1 z2 z3 z4 z5 => ⟨T.length - 2 * bs, by omega, 2 * bs, Ms ++ Rs', by rw [i64_id (by omega)]; omega, by omega, by omega, rfl, Sz.app hM z1 (by omega), z2, z3, z4, z5⟩
    generalize hA : Ms.length * (2 * bs) = A at *
    rw [i64_id (n := (A : Int) + (bs : Int)) (by omega), show (A : Int) + (bs : Int) = ((A + bs : Nat) : Int) by omega]
    refine Br.dec (fun q3 => ?_) fun q3 => Br.dec (fun q4 => ?_) fun q4 => ?_
    · match Rs, hsz, hbk, hperm, H4, ltot with
      | [], _, _, _, _, ltot => simp only [List.flatten_nil, List.length_nil] at ltot; omega
      | [B], hsz, _, _, _, ltot =>
        have h2 := hsz.2
        simp only [List.flatten_cons, List.flatten_nil, List.length_append, List.length_nil, List.append_nil] at ltot
        omega
      | B :: C :: r, hsz, hbk, hperm, H4, ltot =>
        have lB := hsz.1
        have lC : C.length = bs := by
          match r, hsz with
          | [], hsz =>
            have h2 := hsz.2.2
            simp only [List.flatten_cons, List.flatten_nil, List.length_append, List.length_nil, List.append_nil] at ltot
            omega
          | D :: r, hsz => exact hsz.2.1
        have sB := hbk.so B (by simp)
        have sC := hbk.so C (by simp)
        have tBC : Tg B C := by
          have := (List.pairwise_append.1 hbk.tg).2.1
          exact (List.pairwise_cons.1 this).1 C (by simp)
        refine (c_sym (B.length + C.length) (P := Ms.flatten) (U := B) (V := C) (Q := r.flatten) (a := A) (m := A + bs) (b := A + 2 * bs) (by simpa using H4) sB sC tBC (by intro e; rw [e] at lB; simp at lB; omega) (by intro e; rw [e] at lC; simp at lC; omega) (by omega) (by omega) (by omega) (Nat.le_refl _)).mono ?_
        rintro w5 ⟨e5, M, pM, sM, H5⟩
        have eq1 : (Ms ++ [M]) ++ r = Ms ++ M :: r := by simp
        refine ⟨r.length, by simp; omega, Ms ++ [M], r, ?_, rfl, fun X hX => ?_, (Sz.tail hsz), by rw [eq1]; exact hbk.merge sM pM, by rw [eq1]; exact merge_perm hperm pM, by rw [eq1]; simpa using H5, e4.tr e5⟩
        · have eA : (Ms ++ [M]).length * (2 * bs) = A + 2 * bs := by rw [List.length_append, Nat.add_mul, hA]; simp
          rw [eA]
          exact pair_eq rfl (by rw [i64_id (n := 2 * (bs : Int)) (by omega), i64_id (by omega)]; omega)
        · rcases List.mem_append.1 hX with hX | hX
          · exact hM X hX
          · rw [List.mem_singleton.1 hX, pM.length_eq, List.length_append]; omega
    · match Rs, hsz, hbk, hperm, H4, ltot with
      | [], _, _, _, _, ltot => simp only [List.flatten_nil, List.length_nil] at ltot; omega
      | [B], hsz, _, _, _, ltot =>
        have h2 := hsz.2
        simp only [List.flatten_cons, List.flatten_nil, List.length_append, List.length_nil, List.append_nil] at ltot
        omega
      | B :: C :: D :: r, hsz, _, _, _, ltot =>
        have lB := hsz.1
        have lC := hsz.2.1
        simp only [List.flatten_cons, List.flatten_nil, List.length_append, List.length_nil, List.append_nil] at ltot
        omega
      | [B, C], hsz, hbk, hperm, H4, ltot =>
        have lB := hsz.1
        have lC := hsz.2
        have sB := hbk.so B (by simp)
        have sC := hbk.so C (by simp)
        have tBC : Tg B C := by
          have := (List.pairwise_append.1 hbk.tg).2.1
          exact (List.pairwise_cons.1 this).1 C (by simp)
        simp only [List.flatten_cons, List.flatten_nil, List.append_nil, List.length_append] at ltot
        refine (c_sym (B.length + C.length) (P := Ms.flatten) (U := B) (V := C) (Q := []) (a := A) (m := A + bs) (b := T.length) (by simpa using H4) sB sC tBC (by intro e; rw [e] at lB; simp at lB; omega) (by intro e; have := lC.1; rw [e] at this; simp at this) (by omega) (by omega) (by omega) (Nat.le_refl _)).mono ?_
        rintro w5 ⟨e5, M, pM, sM, H5⟩
        have lM : M.length = B.length + C.length := by rw [pM.length_eq, List.length_append]
        have hlc := lC.1
        have hlc2 := lC.2
        exact fin w5 [M] ⟨by omega, by omega⟩ (hbk.merge sM pM) (merge_perm hperm pM) (by simpa using H5) (e4.tr e5)
    · match Rs, hsz, hbk, hperm, H4, ltot with
      | [], hsz, hbk, hperm, H4, ltot => exact fin w4 [] trivial hbk hperm H4 e4
      | [B], hsz, hbk, hperm, H4, ltot => exact fin w4 [B] ⟨hsz.1, by have := hsz.2; omega⟩ hbk hperm H4 e4
      | B :: C :: r, hsz, _, _, _, ltot =>
        have lB := hsz.1
        have lC := (Sz.len hb0 hsz.2 C (by simp)).1
        simp only [List.flatten_cons, List.flatten_nil, List.length_append, List.length_nil, List.append_nil] at ltot
        omega
theorem c_sort (h : SS w s T c W) (hT : T.Pairwise fun x y => x.2 < y.2) : C39 s (clos c) w fun w1 => Ext s.own w w1 ∧ ∃ T', T'.Perm T ∧ So W T' ∧ SS w1 s T' c W := by
  refine T39_F40 _ _ _ ?_
  unfold S39_F40
  rw [h.row.len]
  exact c_stable h hT
end
end Ssr
end Go.Proofs.YtodhdkbhmkinjaaDoor
