/- The reference of package matrix answers the same. No condition. -/
import Derived.Test.YtcblpehnkogfdaaGreatDoorMatX
namespace Go.Proofs.YtcblpehnkogfdaaGreatDoor
namespace Mat
open Sh Fix
set_option linter.unusedVariables false
set_option linter.unusedSimpArgs false
set_option maxRecDepth 4000
set_option maxHeartbeats 1000000

theorem row2 {w : World} {b : Nat} {t : TypeId} {x0 x1 : Int} (h : Blk w b #[.int .i64 x0, .int .i64 x1] t) : IRow w ⟨some ⟨b, 0, none⟩, 2, 2⟩ [x0, x1] :=
  IRow.of h rfl fun i hi => by
    have : i = 0 ∨ i = 1 := by simp at hi; omega
    rcases this with rfl | rfl <;> rfl
theorem r_within {s : Slc} {l : List Int} {w : World} (h : IRow w s l) (hl : l.length ≤ 1000) : C86 s w fun r w1 => r = l.all inW ∧ w1 = w := by
  refine T86 _ _ _ ?_
  unfold S86
  have hn := h.1
  refine ⟨fun n st w1 => ∃ i : Nat, st = (i : Int) ∧ i ≤ l.length ∧ n = l.length - i ∧ w1 = w ∧ ∀ j, j < i → inW (l.getD j 0) = true, l.length, ⟨0, rfl, by omega, rfl, rfl, fun j hj => by omega⟩, ?_⟩
  rintro n st w1 ⟨i, rfl, hi, rfl, rfl, hall⟩
  unfold S86L1
  rw [hn]
  refine Br.dec (fun e => ?_) fun e => ⟨((all_iff l).2 fun j hj => hall j (by omega)).symm, rfl⟩
  obtain ⟨a, ha, hc⟩ := h.2 i (by omega)
  rw [ha]
  have hno : inW (l.getD i 0) = false → false = l.all inW := fun hw => by
    cases hx : l.all inW with
    | false => rfl
    | true => have := (all_iff l).1 hx i (by omega); rw [hw] at this; cases this
  refine ⟨by omega, by omega, Nn.of ⟨l.getD i 0, by rw [Int.toNat_natCast, Nat.mul_one]; exact hc, Br.dec (fun h2 => ⟨hno (inW_no.2 (by omega)), rfl⟩) fun h2 => Br.dec (fun h3 => ⟨hno (inW_no.2 (by omega)), rfl⟩) fun h3 => ?_⟩⟩
  refine ⟨l.length - (i + 1), by omega, i + 1, by rw [i64_id (by omega)]; rfl, by omega, rfl, rfl, fun j hj => ?_⟩
  by_cases hji : j = i
  · rw [hji]; exact inW_spec.2 (by omega)
  · exact hall j (by omega)
attribute [local irreducible] Ld St Nw Nn Lt LdS
theorem r_check (m : Mx) (w : World) : C49 m w fun r w1 => r = (if okM m = true then 0 else 2) ∧ Ext (fun _ => False) w w1 := by
  refine T49 _ _ _ ?_
  unfold S49
  refine (Hn.start w).nw fun w2 H => ?_
  iterate 6 refine H.ld 0 rfl rfl ?_
  refine H.nw fun w3 H => ?_
  refine (r_within (l := comps m) (row6 (H.get 1 rfl)) (by show 6 ≤ 1000; decide)).mono ?_
  rintro r w4 ⟨rfl, rfl⟩
  show Br (!okM m) _ _
  cases okM m <;> exact ⟨rfl, H.ext⟩
theorem r_dot {s : Slc} {l : List Int} {w : World} (h : IRow w s l) (hl : l.length = 4 ∨ l.length = 6) : C117 s w fun r e w1 => (r, e) = (match dotP l with
    | some n => (n, 0)
    | none => (0, 2)) ∧ Ext (fun _ => False) w w1 := by
  refine (Fix.r_dot h (by omega)).mono ?_
  rintro r e w1 ⟨h1, he⟩
  refine ⟨?_, he⟩
  rw [h1]
  exact if_neg (by omega)
theorem r_mul (a b : Mx) (w : World) : C85 a b w fun r e w1 => (r, e) = resM (mulP a b) ∧ Ext (fun _ => False) w w1 := by
  refine T85 _ _ _ _ ?_
  unfold S85
  refine (Hn.start w).nw fun w3 H => H.nw fun w4 H => H.nw fun w5 H => ?_
  iterate 6 refine H.ld 0 rfl rfl ?_
  refine (r_check a _).mono ?_
  rintro r w6 ⟨rfl, he⟩
  have H := H.keep he
  have hbad : mulP a b = none → ((0, 0, 0, 0, 0, 0), 2) = resM (mulP a b) := fun h => by rw [h]; rfl
  by_cases hka : okM a = true
  case neg =>
    rw [if_neg hka]
    refine Br.ne (fun _ => ?_) fun h => by cases h
    iterate 6 (refine H.st 2 rfl (by simp) fun _ H => ?_; simp only [List.nil_append, List.cons_append, List.set_cons_zero, List.set_cons_succ, Nat.zero_add] at H)
    iterate 6 refine H.ld 2 rfl rfl ?_
    exact ⟨hbad (if_neg fun h => hka h.1), H.ext⟩
  rw [if_pos hka]
  refine Br.ne (fun h => absurd rfl h) fun _ => ?_
  iterate 6 refine H.ld 1 rfl rfl ?_
  refine (r_check b _).mono ?_
  rintro r w7 ⟨rfl, he⟩
  have H := H.keep he
  by_cases hkb : okM b = true
  case neg =>
    rw [if_neg hkb]
    refine Br.ne (fun _ => ?_) fun h => by cases h
    iterate 6 (refine H.st 2 rfl (by simp) fun _ H => ?_; simp only [List.nil_append, List.cons_append, List.set_cons_zero, List.set_cons_succ, Nat.zero_add] at H)
    iterate 6 refine H.ld 2 rfl rfl ?_
    exact ⟨hbad (if_neg fun h => hkb h.2), H.ext⟩
  rw [if_pos hkb]
  refine Br.ne (fun h => absurd rfl h) fun _ => ?_
  have hmul : mulP a b = (dotP [a.1, b.1, a.2.1, b.2.2.1]).bind fun p => (dotP [a.1, b.2.1, a.2.1, b.2.2.2.1]).bind fun q => (dotP [a.2.2.1, b.1, a.2.2.2.1, b.2.2.1]).bind fun r => (dotP [a.2.2.1, b.2.1, a.2.2.2.1, b.2.2.2.1]).bind fun s =>
    (dotP [a.2.2.2.2.1, b.1, a.2.2.2.2.2, b.2.2.1, b.2.2.2.2.1, 10000]).bind fun t => (dotP [a.2.2.2.2.1, b.2.1, a.2.2.2.2.2, b.2.2.2.1, b.2.2.2.2.2, 10000]).bind fun u => some (p, q, r, s, t, u) := if_pos ⟨hka, hkb⟩
  repeat (first | refine H.ld 0 rfl rfl ?_ | refine H.ld 1 rfl rfl ?_ | refine H.ld 2 rfl rfl ?_ | refine H.ld 3 rfl rfl ?_ | refine H.ld 4 rfl rfl ?_ | refine H.ld 5 rfl rfl ?_)
  refine H.nw fun w8 H => (r_dot (row4 (H.get 3 rfl)) (.inl rfl)).mono ?_
  rintro p1 e1 w9 ⟨h1, he⟩
  have H := (H.keep he).left (L := [_, _, _]) (M := [_])
  repeat (first | refine H.ld 0 rfl rfl ?_ | refine H.ld 1 rfl rfl ?_ | refine H.ld 2 rfl rfl ?_ | refine H.ld 3 rfl rfl ?_ | refine H.ld 4 rfl rfl ?_ | refine H.ld 5 rfl rfl ?_)
  refine H.nw fun w8 H => (r_dot (row4 (H.get 3 rfl)) (.inl rfl)).mono ?_
  rintro p2 e2 w10 ⟨h2, he⟩
  have H := (H.keep he).left (L := [_, _, _]) (M := [_])
  repeat (first | refine H.ld 0 rfl rfl ?_ | refine H.ld 1 rfl rfl ?_ | refine H.ld 2 rfl rfl ?_ | refine H.ld 3 rfl rfl ?_ | refine H.ld 4 rfl rfl ?_ | refine H.ld 5 rfl rfl ?_)
  refine H.nw fun w8 H => (r_dot (row4 (H.get 3 rfl)) (.inl rfl)).mono ?_
  rintro p3 e3 w11 ⟨h3, he⟩
  have H := (H.keep he).left (L := [_, _, _]) (M := [_])
  repeat (first | refine H.ld 0 rfl rfl ?_ | refine H.ld 1 rfl rfl ?_ | refine H.ld 2 rfl rfl ?_ | refine H.ld 3 rfl rfl ?_ | refine H.ld 4 rfl rfl ?_ | refine H.ld 5 rfl rfl ?_)
  refine H.nw fun w8 H => (r_dot (row4 (H.get 3 rfl)) (.inl rfl)).mono ?_
  rintro p4 e4 w12 ⟨h4, he⟩
  have H := (H.keep he).left (L := [_, _, _]) (M := [_])
  repeat (first | refine H.ld 0 rfl rfl ?_ | refine H.ld 1 rfl rfl ?_ | refine H.ld 2 rfl rfl ?_ | refine H.ld 3 rfl rfl ?_ | refine H.ld 4 rfl rfl ?_ | refine H.ld 5 rfl rfl ?_)
  refine H.nw fun w8 H => (r_dot (row6 (H.get 3 rfl)) (.inr rfl)).mono ?_
  rintro p5 e5 w13 ⟨h5, he⟩
  have H := (H.keep he).left (L := [_, _, _]) (M := [_])
  repeat (first | refine H.ld 0 rfl rfl ?_ | refine H.ld 1 rfl rfl ?_ | refine H.ld 2 rfl rfl ?_ | refine H.ld 3 rfl rfl ?_ | refine H.ld 4 rfl rfl ?_ | refine H.ld 5 rfl rfl ?_)
  refine H.nw fun w8 H => (r_dot (row6 (H.get 3 rfl)) (.inr rfl)).mono ?_
  rintro p6 e6 w14 ⟨h6, he⟩
  have H := (H.keep he).left (L := [_, _, _]) (M := [_])
  -- the sums one by one
  cases d1 : dotP [a.1, b.1, a.2.1, b.2.2.1] with
  | none =>
    rw [d1] at h1 hmul
    obtain ⟨rfl, rfl⟩ := Prod.mk.inj h1
    refine Br.ne (fun _ => ?_) fun h => by cases h
    iterate 6 (refine H.st 2 rfl (by simp) fun _ H => ?_; simp only [List.nil_append, List.cons_append, List.set_cons_zero, List.set_cons_succ, Nat.zero_add] at H)
    iterate 6 refine H.ld 2 rfl rfl ?_
    exact ⟨hbad hmul, H.ext⟩
  | some n1 =>
  rw [d1] at h1 hmul
  obtain ⟨rfl, rfl⟩ := Prod.mk.inj h1
  refine Br.ne (fun h => absurd rfl h) fun _ => ?_
  cases d2 : dotP [a.1, b.2.1, a.2.1, b.2.2.2.1] with
  | none =>
    rw [d2] at h2 hmul
    obtain ⟨rfl, rfl⟩ := Prod.mk.inj h2
    refine Br.ne (fun _ => ?_) fun h => by cases h
    iterate 6 (refine H.st 2 rfl (by simp) fun _ H => ?_; simp only [List.nil_append, List.cons_append, List.set_cons_zero, List.set_cons_succ, Nat.zero_add] at H)
    iterate 6 refine H.ld 2 rfl rfl ?_
    exact ⟨hbad hmul, H.ext⟩
  | some n2 =>
  rw [d2] at h2 hmul
  obtain ⟨rfl, rfl⟩ := Prod.mk.inj h2
  refine Br.ne (fun h => absurd rfl h) fun _ => ?_
  cases d3 : dotP [a.2.2.1, b.1, a.2.2.2.1, b.2.2.1] with
  | none =>
    rw [d3] at h3 hmul
    obtain ⟨rfl, rfl⟩ := Prod.mk.inj h3
    refine Br.ne (fun _ => ?_) fun h => by cases h
    iterate 6 (refine H.st 2 rfl (by simp) fun _ H => ?_; simp only [List.nil_append, List.cons_append, List.set_cons_zero, List.set_cons_succ, Nat.zero_add] at H)
    iterate 6 refine H.ld 2 rfl rfl ?_
    exact ⟨hbad hmul, H.ext⟩
  | some n3 =>
  rw [d3] at h3 hmul
  obtain ⟨rfl, rfl⟩ := Prod.mk.inj h3
  refine Br.ne (fun h => absurd rfl h) fun _ => ?_
  cases d4 : dotP [a.2.2.1, b.2.1, a.2.2.2.1, b.2.2.2.1] with
  | none =>
    rw [d4] at h4 hmul
    obtain ⟨rfl, rfl⟩ := Prod.mk.inj h4
    refine Br.ne (fun _ => ?_) fun h => by cases h
    iterate 6 (refine H.st 2 rfl (by simp) fun _ H => ?_; simp only [List.nil_append, List.cons_append, List.set_cons_zero, List.set_cons_succ, Nat.zero_add] at H)
    iterate 6 refine H.ld 2 rfl rfl ?_
    exact ⟨hbad hmul, H.ext⟩
  | some n4 =>
  rw [d4] at h4 hmul
  obtain ⟨rfl, rfl⟩ := Prod.mk.inj h4
  refine Br.ne (fun h => absurd rfl h) fun _ => ?_
  cases d5 : dotP [a.2.2.2.2.1, b.1, a.2.2.2.2.2, b.2.2.1, b.2.2.2.2.1, 10000] with
  | none =>
    rw [d5] at h5 hmul
    obtain ⟨rfl, rfl⟩ := Prod.mk.inj h5
    refine Br.ne (fun _ => ?_) fun h => by cases h
    iterate 6 (refine H.st 2 rfl (by simp) fun _ H => ?_; simp only [List.nil_append, List.cons_append, List.set_cons_zero, List.set_cons_succ, Nat.zero_add] at H)
    iterate 6 refine H.ld 2 rfl rfl ?_
    exact ⟨hbad hmul, H.ext⟩
  | some n5 =>
  rw [d5] at h5 hmul
  obtain ⟨rfl, rfl⟩ := Prod.mk.inj h5
  refine Br.ne (fun h => absurd rfl h) fun _ => ?_
  cases d6 : dotP [a.2.2.2.2.1, b.2.1, a.2.2.2.2.2, b.2.2.2.1, b.2.2.2.2.2, 10000] with
  | none =>
    rw [d6] at h6 hmul
    obtain ⟨rfl, rfl⟩ := Prod.mk.inj h6
    refine Br.ne (fun _ => ?_) fun h => by cases h
    iterate 6 (refine H.st 2 rfl (by simp) fun _ H => ?_; simp only [List.nil_append, List.cons_append, List.set_cons_zero, List.set_cons_succ, Nat.zero_add] at H)
    iterate 6 refine H.ld 2 rfl rfl ?_
    exact ⟨hbad hmul, H.ext⟩
  | some n6 =>
  rw [d6] at h6 hmul
  obtain ⟨rfl, rfl⟩ := Prod.mk.inj h6
  refine Br.ne (fun h => absurd rfl h) fun _ => ?_
  refine H.nw fun w15 H => (r_within (row6 (H.get 3 rfl)) (by simp)).mono ?_
  rintro r w16 ⟨rfl, rfl⟩
  have hin : ([p1, p2, p3, p4, p5, p6].all inW) = true := by
    simp only [List.all_cons, List.all_nil, dotP_in d1, dotP_in d2, dotP_in d3, dotP_in d4, dotP_in d5, dotP_in d6]
    rfl
  rw [hin]
  refine Br_of (fun h => by cases h) fun _ => ?_
  iterate 6 (refine H.st 2 rfl (by simp) fun _ H => ?_; simp only [List.nil_append, List.cons_append, List.set_cons_zero, List.set_cons_succ, Nat.zero_add] at H)
  iterate 6 refine H.ld 2 rfl rfl ?_
  refine ⟨?_, H.ext⟩
  rw [hmul]
  rfl
theorem r_apply (m : Mx) (p : Int × Int) (w : World) : C136 m p w fun r e w1 => (r, e) = resP (applyP m p) ∧ Ext (fun _ => False) w w1 := by
  refine T136 _ _ _ _ ?_
  unfold S136
  refine (Hn.start w).nw fun w3 H => H.nw fun w4 H => H.nw fun w5 H => ?_
  iterate 6 refine H.ld 0 rfl rfl ?_
  refine (r_check m _).mono ?_
  rintro r w6 ⟨rfl, he⟩
  have H := H.keep he
  have hbad : applyP m p = none → (((0, 0), 2) : (Int × Int) × Int) = resP (applyP m p) := fun h => by rw [h]; rfl
  by_cases hka : okM m = true
  case neg =>
    rw [if_neg hka]
    refine Br.ne (fun _ => ?_) fun h => by cases h
    iterate 2 (refine H.st 2 rfl (by simp) fun _ H => ?_; simp only [List.nil_append, List.cons_append, List.set_cons_zero, List.set_cons_succ, Nat.zero_add] at H)
    iterate 2 refine H.ld 2 rfl rfl ?_
    exact ⟨hbad (if_neg fun h => hka h.1), H.ext⟩
  rw [if_pos hka]
  refine Br.ne (fun h => absurd rfl h) fun _ => ?_
  iterate 2 refine H.ld 1 rfl rfl ?_
  refine H.nw fun w7 H => (r_within (row2 (H.get 3 rfl)) (by simp)).mono ?_
  rintro r w8 ⟨rfl, rfl⟩
  have H := H.left (L := [_, _, _]) (M := [_])
  by_cases hi : ([p.1, p.2].all inW) = true
  case neg =>
    have : ([p.1, p.2].all inW) = false := by simpa using hi
    rw [this]
    refine Br_of (fun _ => ?_) fun h => by cases h
    iterate 2 (refine H.st 2 rfl (by simp) fun _ H => ?_; simp only [List.nil_append, List.cons_append, List.set_cons_zero, List.set_cons_succ, Nat.zero_add] at H)
    iterate 2 refine H.ld 2 rfl rfl ?_
    refine ⟨hbad (if_neg fun h => hi ?_), H.ext⟩
    simp only [List.all_cons, List.all_nil, h.2.1, h.2.2]
    rfl
  rw [hi]
  refine Br_of (fun h => by cases h) fun _ => ?_
  have hi2 : inW p.1 = true ∧ inW p.2 = true := by simpa using hi
  have happ : applyP m p = (dotP [p.1, m.1, p.2, m.2.2.1, m.2.2.2.2.1, 10000]).bind fun x => (dotP [p.1, m.2.1, p.2, m.2.2.2.1, m.2.2.2.2.2, 10000]).bind fun y => some (x, y) := if_pos ⟨hka, hi2⟩
  repeat (first | refine H.ld 0 rfl rfl ?_ | refine H.ld 1 rfl rfl ?_ | refine H.ld 2 rfl rfl ?_ | refine H.ld 3 rfl rfl ?_ | refine H.ld 4 rfl rfl ?_ | refine H.ld 5 rfl rfl ?_)
  refine H.nw fun w9 H => (r_dot (row6 (H.get 3 rfl)) (.inr rfl)).mono ?_
  rintro p1 e1 w10 ⟨h1, he⟩
  have H := (H.keep he).left (L := [_, _, _]) (M := [_])
  repeat (first | refine H.ld 0 rfl rfl ?_ | refine H.ld 1 rfl rfl ?_ | refine H.ld 2 rfl rfl ?_ | refine H.ld 3 rfl rfl ?_ | refine H.ld 4 rfl rfl ?_ | refine H.ld 5 rfl rfl ?_)
  refine H.nw fun w9 H => (r_dot (row6 (H.get 3 rfl)) (.inr rfl)).mono ?_
  rintro p2 e2 w11 ⟨h2, he⟩
  have H := (H.keep he).left (L := [_, _, _]) (M := [_])
  cases d1 : dotP [p.1, m.1, p.2, m.2.2.1, m.2.2.2.2.1, 10000] with
  | none =>
    rw [d1] at h1 happ
    obtain ⟨rfl, rfl⟩ := Prod.mk.inj h1
    refine Br.ne (fun _ => ?_) fun h => by cases h
    iterate 2 (refine H.st 2 rfl (by simp) fun _ H => ?_; simp only [List.nil_append, List.cons_append, List.set_cons_zero, List.set_cons_succ, Nat.zero_add] at H)
    iterate 2 refine H.ld 2 rfl rfl ?_
    exact ⟨hbad happ, H.ext⟩
  | some n1 =>
  rw [d1] at h1 happ
  obtain ⟨rfl, rfl⟩ := Prod.mk.inj h1
  refine Br.ne (fun h => absurd rfl h) fun _ => ?_
  cases d2 : dotP [p.1, m.2.1, p.2, m.2.2.2.1, m.2.2.2.2.2, 10000] with
  | none =>
    rw [d2] at h2 happ
    obtain ⟨rfl, rfl⟩ := Prod.mk.inj h2
    refine Br.ne (fun _ => ?_) fun h => by cases h
    iterate 2 (refine H.st 2 rfl (by simp) fun _ H => ?_; simp only [List.nil_append, List.cons_append, List.set_cons_zero, List.set_cons_succ, Nat.zero_add] at H)
    iterate 2 refine H.ld 2 rfl rfl ?_
    exact ⟨hbad happ, H.ext⟩
  | some n2 =>
  rw [d2] at h2 happ
  obtain ⟨rfl, rfl⟩ := Prod.mk.inj h2
  refine Br.ne (fun h => absurd rfl h) fun _ => ?_
  refine H.nw fun w15 H => (r_within (row2 (H.get 3 rfl)) (by simp)).mono ?_
  rintro r w16 ⟨rfl, rfl⟩
  have hin : ([p1, p2].all inW) = true := by
    simp only [List.all_cons, List.all_nil, dotP_in d1, dotP_in d2]
    rfl
  rw [hin]
  refine Br_of (fun h => by cases h) fun _ => ?_
  iterate 2 (refine H.st 2 rfl (by simp) fun _ H => ?_; simp only [List.nil_append, List.cons_append, List.set_cons_zero, List.set_cons_succ, Nat.zero_add] at H)
  iterate 2 refine H.ld 2 rfl rfl ?_
  refine ⟨?_, H.ext⟩
  rw [happ]
  rfl
theorem r_length (m : Mx) (p : Int × Int) (w : World) : C137 m p w fun r e w1 => IsLen m p (r, e) ∧ Ext (fun _ => False) w w1 := by
  refine T137 _ _ _ _ ?_
  unfold S137
  refine (Hn.start w).nw fun w3 H => H.nw fun w4 H => ?_
  repeat (first | refine Lt.of ?_ | refine Nn.of ?_ | refine H.ld 0 rfl rfl ?_ | refine H.ld 1 rfl rfl ?_ | refine H.ld 2 rfl rfl ?_ | refine H.ld 3 rfl rfl ?_ | refine H.ld 4 rfl rfl ?_ | refine H.ld 5 rfl rfl ?_ | (refine H.st 0 rfl (by simp) fun _ H => ?_; simp only [List.nil_append, List.cons_append, List.set_cons_zero, List.set_cons_succ, Nat.zero_add] at H) | (refine H.st 1 rfl (by simp) fun _ H => ?_; simp only [List.nil_append, List.cons_append, List.set_cons_zero, List.set_cons_succ, Nat.zero_add] at H) | (refine H.st 2 rfl (by simp) fun _ H => ?_; simp only [List.nil_append, List.cons_append, List.set_cons_zero, List.set_cons_succ, Nat.zero_add] at H) | (refine H.st 3 rfl (by simp) fun _ H => ?_; simp only [List.nil_append, List.cons_append, List.set_cons_zero, List.set_cons_succ, Nat.zero_add] at H) | (refine H.st 4 rfl (by simp) fun _ H => ?_; simp only [List.nil_append, List.cons_append, List.set_cons_zero, List.set_cons_succ, Nat.zero_add] at H) | (refine H.st 5 rfl (by simp) fun _ H => ?_; simp only [List.nil_append, List.cons_append, List.set_cons_zero, List.set_cons_succ, Nat.zero_add] at H))
  refine (r_apply (flat m) p _).mono ?_
  rintro q e w5 ⟨hq, he⟩
  have H := H.keep he
  refine H.nw fun w6 H => ?_
  repeat (first | refine Lt.of ?_ | refine Nn.of ?_ | refine H.ld 0 rfl rfl ?_ | refine H.ld 1 rfl rfl ?_ | refine H.ld 2 rfl rfl ?_ | refine H.ld 3 rfl rfl ?_ | refine H.ld 4 rfl rfl ?_ | refine H.ld 5 rfl rfl ?_ | (refine H.st 0 rfl (by simp) fun _ H => ?_; simp only [List.nil_append, List.cons_append, List.set_cons_zero, List.set_cons_succ, Nat.zero_add] at H) | (refine H.st 1 rfl (by simp) fun _ H => ?_; simp only [List.nil_append, List.cons_append, List.set_cons_zero, List.set_cons_succ, Nat.zero_add] at H) | (refine H.st 2 rfl (by simp) fun _ H => ?_; simp only [List.nil_append, List.cons_append, List.set_cons_zero, List.set_cons_succ, Nat.zero_add] at H) | (refine H.st 3 rfl (by simp) fun _ H => ?_; simp only [List.nil_append, List.cons_append, List.set_cons_zero, List.set_cons_succ, Nat.zero_add] at H) | (refine H.st 4 rfl (by simp) fun _ H => ?_; simp only [List.nil_append, List.cons_append, List.set_cons_zero, List.set_cons_succ, Nat.zero_add] at H) | (refine H.st 5 rfl (by simp) fun _ H => ?_; simp only [List.nil_append, List.cons_append, List.set_cons_zero, List.set_cons_succ, Nat.zero_add] at H))
  unfold IsLen
  cases ha : applyP (flat m) p with
  | none =>
    rw [ha] at hq
    obtain ⟨rfl, rfl⟩ := Prod.mk.inj hq
    exact ⟨rfl, H.ext⟩
  | some q' =>
    rw [ha] at hq
    obtain ⟨rfl, rfl⟩ := Prod.mk.inj hq
    obtain ⟨i1, i2⟩ := applyP_in ha
    have hb := sq_bd i1 i2
    refine Br.ne (fun h => absurd rfl h) fun _ => ?_
    repeat (first | refine Lt.of ?_ | refine Nn.of ?_ | refine H.ld 0 rfl rfl ?_ | refine H.ld 1 rfl rfl ?_ | refine H.ld 2 rfl rfl ?_ | refine H.ld 3 rfl rfl ?_ | refine H.ld 4 rfl rfl ?_ | refine H.ld 5 rfl rfl ?_ | (refine H.st 0 rfl (by simp) fun _ H => ?_; simp only [List.nil_append, List.cons_append, List.set_cons_zero, List.set_cons_succ, Nat.zero_add] at H) | (refine H.st 1 rfl (by simp) fun _ H => ?_; simp only [List.nil_append, List.cons_append, List.set_cons_zero, List.set_cons_succ, Nat.zero_add] at H) | (refine H.st 2 rfl (by simp) fun _ H => ?_; simp only [List.nil_append, List.cons_append, List.set_cons_zero, List.set_cons_succ, Nat.zero_add] at H) | (refine H.st 3 rfl (by simp) fun _ H => ?_; simp only [List.nil_append, List.cons_append, List.set_cons_zero, List.set_cons_succ, Nat.zero_add] at H) | (refine H.st 4 rfl (by simp) fun _ H => ?_; simp only [List.nil_append, List.cons_append, List.set_cons_zero, List.set_cons_succ, Nat.zero_add] at H) | (refine H.st 5 rfl (by simp) fun _ H => ?_; simp only [List.nil_append, List.cons_append, List.set_cons_zero, List.set_cons_succ, Nat.zero_add] at H))
    generalize hn : q.1 * q.1 + q.2 * q.2 = n
    have hn2 : 0 ≤ n ∧ n ≤ 2305843009213693952 := by omega
    refine ⟨fun k st w7 => w7 = _ ∧ 0 ≤ st.1 ∧ st.1 ≤ st.2 ∧ st.2 ≤ 2147483648 ∧ st.1 * st.1 ≤ n ∧ n < (st.2 + 1) * (st.2 + 1) ∧ k = (st.2 - st.1).toNat, _, ⟨rfl, by simp, by simp, by simp, by simp; omega, by simp; omega, rfl⟩, ?_⟩
    rintro k ⟨lo, hi⟩ w7 ⟨rfl, h0, h1, h2, h3, h4, rfl⟩
    unfold S137L1
    dsimp only at h0 h1 h2 h3 h4 ⊢
    rw [i64_id (n := q.1 * q.1) (by omega), i64_id (n := q.2 * q.2) (by omega), hn, i64_id (n := n) (by omega), i64_id (n := lo + hi) (by omega), i64_id (n := lo + hi + 1) (by omega), tdiv_id (by omega), i64_id (n := (lo + hi + 1) / 2) (by omega)]
    generalize hm : (lo + hi + 1) / 2 = mid
    have hm2 : lo ≤ mid ∧ mid ≤ hi ∧ (lo < hi → lo < mid) := by omega
    have hmm : 0 ≤ mid * mid ∧ mid * mid ≤ 2147483648 * 2147483648 := ⟨Int.mul_nonneg (by omega) (by omega), Int.mul_le_mul (by omega) (by omega) (by omega) (by omega)⟩
    rw [i64_id (n := mid * mid) (by omega)]
    refine Br.dec (fun hlt => Lt.of (Lt.of (Br.dec (fun h => ?_) fun h => ?_))) fun hlt => ?_
    · exact ⟨_, by omega, rfl, by omega, by omega, by omega, h, h4, rfl⟩
    · refine Lt.of ⟨_, ?_, rfl, h0, ?_, ?_, h3, ?_, rfl⟩
      · rw [i64_id (by omega)]; omega
      · rw [i64_id (by omega)]; omega
      · rw [i64_id (by omega)]; omega
      · rw [i64_id (by omega), show mid - 1 + 1 = mid by omega]; omega
    · have : lo = hi := by omega
      subst this
      have hr : isRoot n lo := ⟨h0, h3, h4⟩
      exact Br.dec (fun h => ⟨⟨lo, hr, by rw [if_pos h]⟩, H.ext⟩) fun h => ⟨⟨lo, hr, by rw [if_neg h]⟩, H.ext⟩
theorem r_one (w : World) : C22 w fun r w1 => r = one ∧ Ext (fun _ => False) w w1 := by
  refine T22 _ _ ?_
  unfold S22
  refine (Hn.start w).nw fun w3 H => ?_
  repeat (first | refine Lt.of ?_ | refine Nn.of ?_ | refine H.ld 0 rfl rfl ?_ | refine H.ld 1 rfl rfl ?_ | refine H.ld 2 rfl rfl ?_ | refine H.ld 3 rfl rfl ?_ | refine H.ld 4 rfl rfl ?_ | refine H.ld 5 rfl rfl ?_ | (refine H.st 0 rfl (by simp) fun _ H => ?_; simp only [List.nil_append, List.cons_append, List.set_cons_zero, List.set_cons_succ, Nat.zero_add] at H) | (refine H.st 1 rfl (by simp) fun _ H => ?_; simp only [List.nil_append, List.cons_append, List.set_cons_zero, List.set_cons_succ, Nat.zero_add] at H) | (refine H.st 2 rfl (by simp) fun _ H => ?_; simp only [List.nil_append, List.cons_append, List.set_cons_zero, List.set_cons_succ, Nat.zero_add] at H) | (refine H.st 3 rfl (by simp) fun _ H => ?_; simp only [List.nil_append, List.cons_append, List.set_cons_zero, List.set_cons_succ, Nat.zero_add] at H) | (refine H.st 4 rfl (by simp) fun _ H => ?_; simp only [List.nil_append, List.cons_append, List.set_cons_zero, List.set_cons_succ, Nat.zero_add] at H) | (refine H.st 5 rfl (by simp) fun _ H => ?_; simp only [List.nil_append, List.cons_append, List.set_cons_zero, List.set_cons_succ, Nat.zero_add] at H))
  exact ⟨rfl, H.ext⟩
theorem r_move (x y : Int) (w : World) : C20 x y w fun r w1 => r = moveM x y ∧ Ext (fun _ => False) w w1 := by
  refine T20 _ _ _ _ ?_
  unfold S20
  refine (Hn.start w).nw fun w3 H => ?_
  repeat (first | refine Lt.of ?_ | refine Nn.of ?_ | refine H.ld 0 rfl rfl ?_ | refine H.ld 1 rfl rfl ?_ | refine H.ld 2 rfl rfl ?_ | refine H.ld 3 rfl rfl ?_ | refine H.ld 4 rfl rfl ?_ | refine H.ld 5 rfl rfl ?_ | (refine H.st 0 rfl (by simp) fun _ H => ?_; simp only [List.nil_append, List.cons_append, List.set_cons_zero, List.set_cons_succ, Nat.zero_add] at H) | (refine H.st 1 rfl (by simp) fun _ H => ?_; simp only [List.nil_append, List.cons_append, List.set_cons_zero, List.set_cons_succ, Nat.zero_add] at H) | (refine H.st 2 rfl (by simp) fun _ H => ?_; simp only [List.nil_append, List.cons_append, List.set_cons_zero, List.set_cons_succ, Nat.zero_add] at H) | (refine H.st 3 rfl (by simp) fun _ H => ?_; simp only [List.nil_append, List.cons_append, List.set_cons_zero, List.set_cons_succ, Nat.zero_add] at H) | (refine H.st 4 rfl (by simp) fun _ H => ?_; simp only [List.nil_append, List.cons_append, List.set_cons_zero, List.set_cons_succ, Nat.zero_add] at H) | (refine H.st 5 rfl (by simp) fun _ H => ?_; simp only [List.nil_append, List.cons_append, List.set_cons_zero, List.set_cons_succ, Nat.zero_add] at H))
  exact ⟨rfl, H.ext⟩
end Mat
end Go.Proofs.YtcblpehnkogfdaaGreatDoor
