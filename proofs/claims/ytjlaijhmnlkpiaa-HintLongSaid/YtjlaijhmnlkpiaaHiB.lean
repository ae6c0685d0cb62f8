/- Hints: what is valid, the least and the greatest of a column; both sides. Conditions: sizes. -/
import Derived.Test.YtjlaijhmnlkpiaaHiA
namespace Go.Proofs.Ytjlaijhmnlkpiaa
namespace Hint
open Sh
set_option linter.unusedVariables false
set_option linter.unusedSimpArgs false
set_option maxRecDepth 4000
set_option maxHeartbeats 1000000
theorem LdS.mk {α : Type} {S : World → Prop} {V : α → Value} {K : α → Prop} {x : α} {a : Addr} (h : ∀ w, S w → w.cell? a = some (V x)) (k : K x) : LdS S a V K := ⟨x, h, k⟩
def okC (h : Hi) (c : Int) : Prop := 0 ≤ col h c ∧ col h c ≤ most c
instance (h : Hi) (c : Int) : Decidable (okC h c) := inferInstanceAs (Decidable (_ ∧ _))
def okH (h : Hi) : Bool := decide (okC h 0 ∧ okC h 1 ∧ okC h 2)
/-- Why hints are invalid. -/
def whyH (L : List Hi) : Int := if L.length = 0 then 1 else if 2048 < L.length then 6 else if L.all okH = true then 0 else 2
theorem whyH_bad {L : List Hi} {h : Hi} (h0 : L.length ≠ 0) (h1 : ¬ 2048 < L.length) (hm : h ∈ L) (hb : okH h = false) : whyH L = 2 := by
  unfold whyH
  rw [if_neg h0, if_neg h1, if_neg]
  intro h2
  have := List.all_eq_true.1 h2 h hm
  rw [hb] at this
  cases this
theorem whyH_ok {L : List Hi} (h0 : L.length ≠ 0) (h1 : ¬ 2048 < L.length) (h : ∀ i, i < L.length → okH (L.getD i (0, 0, 0)) = true) : whyH L = 0 := by
  unfold whyH
  rw [if_neg h0, if_neg h1, if_pos]
  rw [List.all_eq_true]
  intro x hx
  obtain ⟨i, hi, rfl⟩ := List.mem_iff_getElem.1 hx
  have := h i hi
  rwa [List.getD_eq_getElem?_getD, List.getElem?_eq_getElem hi] at this
theorem getD_eq {L : List Hi} {i : Nat} (hi : i < L.length) : L.getD i (0, 0, 0) = L[i] := by rw [List.getD_eq_getElem?_getD, List.getElem?_eq_getElem hi]; rfl
/-- The least and the greatest of column c among the first and the first i. -/
def lo (L : List Hi) (c : Int) : Nat → Int
  | 0 => col (L.getD 0 (0, 0, 0)) c
  | i + 1 => if col (L.getD i (0, 0, 0)) c < lo L c i then col (L.getD i (0, 0, 0)) c else lo L c i
def hi (L : List Hi) (c : Int) : Nat → Int
  | 0 => col (L.getD 0 (0, 0, 0)) c
  | i + 1 => if col (L.getD i (0, 0, 0)) c > hi L c i then col (L.getD i (0, 0, 0)) c else hi L c i
attribute [local irreducible] Ld St Nw Nn Lt LdS
section
variable {w : World} {s : Slc} {L : List Hi}
theorem c_check (h : HV w s L) : C63 s w fun r w1 => r = whyH L ∧ w1 = w := by
  refine T63 _ _ _ ?_
  unfold S63
  rw [h.1]
  refine Br.eq (fun h0 => ⟨?_, rfl⟩) fun h0 => Br.dec (fun h1 => ⟨?_, rfl⟩) fun h1 => ?_
  · unfold whyH; rw [if_pos (by omega)]
  · unfold whyH; rw [if_neg (by omega), if_pos (by omega)]
  refine ⟨fun n st w1 => ∃ i : Nat, st = (i : Int) ∧ i ≤ L.length ∧ n = L.length - i ∧ w1 = w ∧ ∀ j, j < i → okH (L.getD j (0, 0, 0)) = true, L.length, ⟨0, rfl, by omega, rfl, rfl, fun j hj => by omega⟩, ?_⟩
  rintro n st w1 ⟨i, rfl, hi, rfl, rfl, hall⟩
  unfold S63L2
  rw [h.1]
  refine Br.dec (fun e => ?_) fun e => ⟨(whyH_ok (by omega) (by omega) fun j hj => hall j (by omega)).symm, rfl⟩
  have hlt : i < L.length := by omega
  have hLi : L[i]? = some L[i] := List.getElem?_eq_getElem hlt
  have hbad : ∀ c : Int, (c = 0 ∨ c = 1 ∨ c = 2) → ¬ okC L[i] c → (2 : Int) = whyH L := fun c hc hn => by
    refine (whyH_bad (h := L[i]) (by omega) (by omega) (List.getElem_mem hlt) ?_).symm
    unfold okH
    refine decide_eq_false fun hk => hn ?_
    rcases hc with rfl | rfl | rfl
    · exact hk.1
    · exact hk.2.1
    · exact hk.2.2
  refine ⟨fun n st w2 => ∃ c : Nat, st = (c : Int) ∧ c ≤ 3 ∧ n = 3 - c ∧ w2 = w1 ∧ ∀ j : Nat, j < c → okC L[i] (j : Int), 3, ⟨0, rfl, by omega, rfl, rfl, fun j hj => by omega⟩, ?_⟩
  rintro n st w2 ⟨c, rfl, hc, rfl, rfl, hal⟩
  unfold S63L1
  rw [h.1]
  refine Br.dec (fun e2 => ⟨by omega, by omega, ?_⟩) fun e2 => ?_
  · obtain ⟨a, ha, hcell⟩ := h.col hLi (c : Int)
    rw [ha, Int.toNat_natCast]
    refine Nn.of ((c_cell _ _ _).mono ?_)
    rintro r _ ⟨rfl, rfl⟩
    refine Nn.of (Ld.mk hcell (Br.dec (fun h2 => ⟨hbad c (by omega) fun k => ?_, rfl⟩) fun h2 => (c_most _ _).mono ?_))
    · have := k.1; omega
    rintro r _ ⟨rfl, rfl⟩
    refine Br.dec (fun h3 => ⟨hbad c (by omega) fun k => ?_, rfl⟩) fun h3 => ?_
    · have := k.2; omega
    refine ⟨3 - (c + 1), by omega, c + 1, by rw [i64_id (by omega)]; rfl, by omega, rfl, rfl, fun j hj => ?_⟩
    by_cases hjc : j = c
    · subst hjc; exact ⟨by omega, by omega⟩
    · exact hal j (by omega)
  · refine ⟨L.length - (i + 1), by omega, i + 1, by rw [i64_id (by omega)]; rfl, by omega, rfl, rfl, fun j hj => ?_⟩
    by_cases hji : j = i
    · subst hji
      rw [getD_eq hlt]
      exact decide_eq_true ⟨hal 0 (by omega), hal 1 (by omega), hal 2 (by omega)⟩
    · exact hall j (by omega)
theorem r_why (h : HV w s L) : C71 s w fun r w1 => r = whyH L ∧ Ext (fun _ => False) w w1 := by
  refine T71 _ _ _ ?_
  unfold S71
  rw [h.1]
  refine Br.eq (fun h0 => ⟨?_, Ext.refl _ _⟩) fun h0 => Br.dec (fun h1 => ⟨?_, Ext.refl _ _⟩) fun h1 => ?_
  · unfold whyH; rw [if_pos (by omega)]
  · unfold whyH; rw [if_neg (by omega), if_pos (by omega)]
  refine ⟨fun n st w1 => ∃ i : Nat, st = (i : Int) ∧ i ≤ L.length ∧ n = L.length - i ∧ Ext (fun _ => False) w w1 ∧ ∀ j, j < i → okH (L.getD j (0, 0, 0)) = true, L.length, ⟨0, rfl, by omega, rfl, Ext.refl _ _, fun j hj => by omega⟩, ?_⟩
  rintro n st w1 ⟨i, rfl, hi, rfl, he, hall⟩
  unfold S71L1
  rw [h.1]
  refine Br.dec (fun e => ⟨by omega, by omega, ?_⟩) fun e => ⟨(whyH_ok (by omega) (by omega) fun j hj => hall j (by omega)).symm, he⟩
  have hlt : i < L.length := by omega
  have hLi : L[i]? = some L[i] := List.getElem?_eq_getElem hlt
  have hbad : ¬ (okC L[i] 0 ∧ okC L[i] 1 ∧ okC L[i] 2) → (2 : Int) = whyH L := fun hn =>
    (whyH_bad (h := L[i]) (by omega) (by omega) (List.getElem_mem hlt) (decide_eq_false hn)).symm
  simp only [okC, col, most] at hbad
  obtain ⟨a, ha, k0, k1, k2⟩ := (h.keep he).get hLi
  rw [ha, Int.toNat_natCast]
  refine Nn.of (Ld.mk k0 (Ld.mk k1 (Ld.mk k2 ?_)))
  refine (Hn.start w1).nw fun w2 H => ?_
  simp only [List.nil_append] at H
  iterate 3 (refine H.st 0 rfl (by simp) fun _ H => ?_; simp only [List.nil_append, List.cons_append, List.set_cons_zero, List.set_cons_succ, Nat.zero_add] at H)
  refine H.ld 0 rfl rfl (Br.dec (fun q => ⟨hbad fun k => ?_, he.tr H.ext⟩) fun q1 => ?_)
  · have := k.1.1; simp at this; omega
  refine H.ld 0 rfl rfl (Br.dec (fun q => ⟨hbad fun k => ?_, he.tr H.ext⟩) fun q2 => ?_)
  · have := k.1.2; simp at this; omega
  refine H.ld 0 rfl rfl (Br.dec (fun q => ⟨hbad fun k => ?_, he.tr H.ext⟩) fun q3 => ?_)
  · have := k.2.1.1; simp at this; omega
  refine H.ld 0 rfl rfl (Br.dec (fun q => ⟨hbad fun k => ?_, he.tr H.ext⟩) fun q4 => ?_)
  · have := k.2.1.2; simp at this; omega
  refine H.ld 0 rfl rfl (Br.dec (fun q => ⟨hbad fun k => ?_, he.tr H.ext⟩) fun q5 => ?_)
  · have := k.2.2.1; simp at this; omega
  refine H.ld 0 rfl rfl (Br.dec (fun q => ⟨hbad fun k => ?_, he.tr H.ext⟩) fun q6 => ?_)
  · have := k.2.2.2; simp at this; omega
  refine ⟨L.length - (i + 1), by omega, i + 1, by rw [i64_id (by omega)]; rfl, by omega, rfl, he.tr H.ext, fun j hj => ?_⟩
  by_cases hji : j = i
  · subst hji
    rw [getD_eq hlt]
    refine decide_eq_true ?_
    simp only [okC, col, most]
    simp
    omega
  · exact hall j (by omega)
theorem r_part (h : Hi) (c : Int) (w : World) : C76 h c w fun r w1 => r = col h c ∧ Ext (fun _ => False) w w1 := by
  refine T76 h _ _ _ ?_
  unfold S76 col
  refine (Hn.start w).nw fun w2 H => ?_
  simp only [List.nil_append] at H
  refine Br.eq (fun h => ?_) fun h => Br.eq (fun h2 => ?_) fun h2 => ?_
  · exact H.ld 0 rfl rfl ⟨by rw [if_pos h], H.ext⟩
  · exact H.ld 0 rfl rfl ⟨by rw [if_neg h, if_pos h2], H.ext⟩
  · exact H.ld 0 rfl rfl ⟨by rw [if_neg h, if_neg h2], H.ext⟩
theorem c_spread (h : HV w s L) (h0 : L.length ≠ 0) (h1 : L.length ≤ 2048) (c : Int) (hr : -9223372036854775808 ≤ hi L c L.length - lo L c L.length ∧ hi L c L.length - lo L c L.length ≤ 9223372036854775807) :
    C67 s c w fun a b w1 => a = lo L c L.length ∧ b = need (hi L c L.length - lo L c L.length) ∧ Ext (fun _ => False) w w1 := by
  refine T67 _ _ _ _ ?_
  unfold S67
  rw [h.1]
  have hL0 : L[0]? = some L[0] := List.getElem?_eq_getElem (by omega)
  obtain ⟨a, ha, hcell⟩ := h.drew.col hL0 c
  rw [ha]
  refine ⟨by omega, by omega, Nn.of ⟨by omega, by omega, Nn.of ((c_cell _ _ _).mono ?_)⟩⟩
  rintro r _ ⟨rfl, rfl⟩
  refine ⟨fun w1 => w1 = w.drew, rfl, Nn.of (LdS.mk (x := col L[0] c) (fun w1 e => by rw [e]; exact hcell) ((c_cell _ _ _).mono ?_))⟩
  rintro r _ ⟨rfl, rfl⟩
  refine ⟨rfl, Nn.of (LdS.mk (x := col L[0] c) (fun w1 e => by rw [e]; exact hcell) ?_)⟩
  refine ⟨fun n st w1 => ∃ i : Nat, st = (lo L c i, hi L c i, (i : Int)) ∧ i ≤ L.length ∧ n = L.length - i ∧ Ext (fun _ => False) w w1, L.length, ⟨0, by simp only [lo, hi, getD_eq (show 0 < L.length by omega)]; rfl, by omega, rfl, (Ext.refl _ _).drew⟩, ?_⟩
  rintro n st w1 ⟨i, rfl, hi', rfl, he⟩
  unfold S67L1
  dsimp only
  rw [h.1]
  refine Br.dec (fun e => ?_) fun e => ?_
  · have hlt : i < L.length := by omega
    have hLi : L[i]? = some L[i] := List.getElem?_eq_getElem hlt
    obtain ⟨a, ha, hcell⟩ := (h.keep he.drew).col hLi c
    rw [ha, Int.toNat_natCast]
    refine ⟨by omega, by omega, Nn.of ⟨by omega, by omega, Nn.of ((c_cell _ _ _).mono ?_)⟩⟩
    rintro r _ ⟨rfl, rfl⟩
    refine ⟨fun w2 => w2 = w1.drew, rfl, Nn.of (LdS.mk (x := col L[i] c) (fun w1 e => by rw [e]; exact hcell) ((c_cell _ _ _).mono ?_))⟩
    rintro r _ ⟨rfl, rfl⟩
    refine ⟨rfl, Nn.of (LdS.mk (x := col L[i] c) (fun w1 e => by rw [e]; exact hcell) ?_)⟩
    refine ⟨L.length - (i + 1), by omega, i + 1, ?_, by omega, rfl, he.drew⟩
    rw [i64_id (by omega)]
    simp only [lo, hi, getD_eq hlt]
    rfl
  · have hi2 : i = L.length := by omega
    subst hi2
    rw [i64_id hr]
    refine (c_need hr _).mono ?_
    rintro r _ ⟨rfl, rfl⟩
    exact ⟨rfl, rfl, he⟩
end
end Hint
end Go.Proofs.Ytjlaijhmnlkpiaa
