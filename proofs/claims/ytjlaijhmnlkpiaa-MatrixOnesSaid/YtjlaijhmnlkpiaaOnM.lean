/- MatrixOnes: the walk. Conditions: the arguments are int64. -/
import Derived.Test.YtjlaijhmnlkpiaaLwM
namespace Go.Proofs.Ytjlaijhmnlkpiaa
namespace Mat
open Sh Fix
set_option linter.unusedVariables false
set_option linter.unusedSimpArgs false
set_option maxRecDepth 4000
set_option maxHeartbeats 2000000
theorem okM_i64 {m : Mx} (h : okM m = true) : i64M m := fun x hx => by
  have := inW_spec.1 (List.all_eq_true.1 h x hx)
  omega
attribute [local irreducible] Ld St Nw Nn Lt LdS
section
variable {w : World} {b0 b1 : Nat} {t0 t1 : TypeId} {m : Mx} {p : Int × Int}
theorem ones_law (m : Mx) (p : Int × Int) (w : World) : C4 m p w fun r w1 => r = true ∧ Ext (fun _ => False) w w1 := by
  refine T4 m p _ _ ?_
  unfold S4
  refine (Hn.start w).nw fun w2 H => H.nw fun w3 H => (c_lives _).mono ?_
  rintro r w4 ⟨rfl, he⟩
  have H := H.keep he
  simp only [List.nil_append, List.cons_append, List.set_cons_zero, List.set_cons_succ, Nat.zero_add] at H
  refine Br.f rfl ?_
  iterate 6 refine H.ld 0 rfl rfl ?_
  refine (c_check m _).mono ?_
  rintro r w5 ⟨rfl, he⟩
  have H := H.keep he
  by_cases hm : okM m = true
  case neg =>
    rw [if_neg hm]
    exact Br.t rfl ⟨rfl, H.ext⟩
  rw [if_pos hm]
  refine Br.f rfl ?_
  -- what is known after each step
  let base : List (Nat × List Value × TypeId) := [(w.heap.size, mrow m, 23), (w2.heap.size, [.int .i64 p.1, .int .i64 p.2], 25)]
  have H : Hn w w5 base := H
  refine ⟨fun s w6 => ∃ g, s = (⟨g, 0, none⟩, 0) ∧ Hn w w6 (base ++ [(g, mrow m, 23)]), ?_, ?_⟩
  case refine_2 =>
    have hS : ∀ w3, Hn w w3 base → Blk w3 w.heap.size (mrow m).toArray 23 := fun w3 h => h.get 0 rfl
    refine ⟨fun w3 => Hn w w3 base, H.drew, LdS.of hS rfl (LdS.of hS rfl (LdS.of hS rfl (LdS.of hS rfl (LdS.of hS rfl (LdS.of hS rfl ?_)))))⟩
    refine ⟨(c_one _).mono ?_, ?_⟩
    · rintro r w6 ⟨rfl, he⟩
      have H := H.drew.keep he
      refine ⟨H, (c_mul m one _).mono ?_, H.nw fun w7 H => ⟨H.left, (c_mul m one _).mono ?_⟩⟩
      · rintro r e w7 ⟨hr, he⟩
        have H := H.keep he
        rw [mul_one hm] at hr
        cases hr
        refine H.nw fun w8 H => ?_
        simp only [base, List.nil_append, List.cons_append] at H
        iterate 6 (refine H.st 2 rfl (by simp) fun _ H => ?_; simp only [List.nil_append, List.cons_append, List.set_cons_zero, List.set_cons_succ, Nat.zero_add] at H)
        exact ⟨_, rfl, H⟩
      · rintro r e w8 ⟨hr, he⟩
        have H := H.keep he
        rw [mul_one hm] at hr
        cases hr
        simp only [base, List.nil_append, List.cons_append] at H
        iterate 6 (refine H.st 2 rfl (by simp) fun _ H => ?_; simp only [List.nil_append, List.cons_append, List.set_cons_zero, List.set_cons_succ, Nat.zero_add] at H)
        exact ⟨_, rfl, H⟩
    · refine H.drew.nw fun w6 H => ⟨H.left, (c_one _).mono ?_⟩
      rintro r w7 ⟨rfl, he⟩
      have H := H.keep he
      refine ⟨H.left, (c_mul m one _).mono ?_⟩
      rintro r e w8 ⟨hr, he⟩
      have H := H.keep he
      rw [mul_one hm] at hr
      cases hr
      simp only [base, List.nil_append, List.cons_append] at H
      iterate 6 (refine H.st 2 rfl (by simp) fun _ H => ?_; simp only [List.nil_append, List.cons_append, List.set_cons_zero, List.set_cons_succ, Nat.zero_add] at H)
      exact ⟨_, rfl, H⟩
  rintro _ w6 ⟨g1, rfl, H⟩
  unfold S4J3
  let base2 : List (Nat × List Value × TypeId) := base ++ [(g1, mrow m, 23)]
  have H : Hn w w6 base2 := H
  refine ⟨fun s w7 => ∃ g, s = (⟨g, 0, none⟩, 0) ∧ Hn w w7 (base2 ++ [(g, mrow m, 23)]), ?_, ?_⟩
  case refine_2 =>
    have hS : ∀ w3, Hn w w3 base2 → Blk w3 w.heap.size (mrow m).toArray 23 := fun w3 h => h.get 0 rfl
    refine ⟨fun w3 => Hn w w3 base2, H.drew, LdS.of hS rfl (LdS.of hS rfl (LdS.of hS rfl (LdS.of hS rfl (LdS.of hS rfl (LdS.of hS rfl ?_)))))⟩
    refine ⟨(c_one _).mono ?_, ?_⟩
    · rintro r w6 ⟨rfl, he⟩
      have H := H.drew.keep he
      refine ⟨H, (c_mul one m _).mono ?_, H.nw fun w7 H => ⟨H.left, (c_mul one m _).mono ?_⟩⟩
      · rintro r e w7 ⟨hr, he⟩
        have H := H.keep he
        rw [one_mul hm] at hr
        cases hr
        refine H.nw fun w8 H => ?_
        simp only [base2, base, List.nil_append, List.cons_append] at H
        iterate 6 (refine H.st 3 rfl (by simp) fun _ H => ?_; simp only [List.nil_append, List.cons_append, List.set_cons_zero, List.set_cons_succ, Nat.zero_add] at H)
        exact ⟨_, rfl, H⟩
      · rintro r e w8 ⟨hr, he⟩
        have H := H.keep he
        rw [one_mul hm] at hr
        cases hr
        simp only [base2, base, List.nil_append, List.cons_append] at H
        iterate 6 (refine H.st 3 rfl (by simp) fun _ H => ?_; simp only [List.nil_append, List.cons_append, List.set_cons_zero, List.set_cons_succ, Nat.zero_add] at H)
        exact ⟨_, rfl, H⟩
    · refine H.drew.nw fun w6 H => ⟨H.left, (c_one _).mono ?_⟩
      rintro r w7 ⟨rfl, he⟩
      have H := H.keep he
      refine ⟨H.left, (c_mul one m _).mono ?_⟩
      rintro r e w8 ⟨hr, he⟩
      have H := H.keep he
      rw [one_mul hm] at hr
      cases hr
      simp only [base2, base, List.nil_append, List.cons_append] at H
      iterate 6 (refine H.st 3 rfl (by simp) fun _ H => ?_; simp only [List.nil_append, List.cons_append, List.set_cons_zero, List.set_cons_succ, Nat.zero_add] at H)
      exact ⟨_, rfl, H⟩
  rintro _ w7 ⟨g2, rfl, H⟩
  unfold S4J2
  simp only [base2, base, List.nil_append, List.cons_append] at H
  iterate 6 refine H.ld 0 rfl rfl ?_
  refine (c_objectC (okM_i64 hm) _).mono ?_
  rintro r w8 ⟨g, rfl, hb, hg, he⟩
  have H := H.keep he
  refine (c_read (OV.of hb)).mono ?_
  rintro r e w9 ⟨hr, he⟩
  have H := H.keep he
  rw [read_obj hm] at hr
  cases hr
  refine H.nw fun w10 H => ?_
  simp only [List.nil_append, List.cons_append] at H
  iterate 6 (refine H.st 4 rfl (by simp) fun _ H => ?_; simp only [List.nil_append, List.cons_append, List.set_cons_zero, List.set_cons_succ, Nat.zero_add] at H)
  rename_i w11
  let base3 : List (Nat × List Value × TypeId) := [(w.heap.size, mrow m, 23), (w2.heap.size, [.int .i64 p.1, .int .i64 p.2], 25), (g1, mrow m, 23), (g2, mrow m, 23), (w9.heap.size, mrow m, 23)]
  have H : Hn w w11 base3 := H
  refine ⟨fun s w7 => ∃ g q e, s = (⟨g, 0, none⟩, e) ∧ (q, e) = resP (applyP one p) ∧ Hn w w7 (base3 ++ [(g, [.int .i64 q.1, .int .i64 q.2], 25)]), ?_, ?_⟩
  case refine_2 =>
    have hS : ∀ w3, Hn w w3 base3 → Blk w3 w2.heap.size #[.int .i64 p.1, .int .i64 p.2] 25 := fun w3 h => h.get 1 rfl
    refine ⟨fun w3 => Hn w w3 base3, H.drew, LdS.of hS rfl (LdS.of hS rfl ?_)⟩
    refine ⟨(c_one _).mono ?_, ?_⟩
    · rintro r w6 ⟨rfl, he⟩
      have H := H.drew.keep he
      refine ⟨H, (c_apply one p _).mono ?_, H.nw fun w7 H => ⟨H.left, (c_apply one p _).mono ?_⟩⟩
      · rintro r e w7 ⟨hr, he⟩
        have H := H.keep he
        refine H.nw fun w8 H => ?_
        simp only [base3, List.nil_append, List.cons_append] at H
        iterate 2 (refine H.st 5 rfl (by simp) fun _ H => ?_; simp only [List.nil_append, List.cons_append, List.set_cons_zero, List.set_cons_succ, Nat.zero_add] at H)
        exact ⟨_, r, e, rfl, hr, H⟩
      · rintro r e w8 ⟨hr, he⟩
        have H := H.keep he
        simp only [base3, List.nil_append, List.cons_append] at H
        iterate 2 (refine H.st 5 rfl (by simp) fun _ H => ?_; simp only [List.nil_append, List.cons_append, List.set_cons_zero, List.set_cons_succ, Nat.zero_add] at H)
        exact ⟨_, r, e, rfl, hr, H⟩
    · refine H.drew.nw fun w6 H => ⟨H.left, (c_one _).mono ?_⟩
      rintro r w7 ⟨rfl, he⟩
      have H := H.keep he
      refine ⟨H.left, (c_apply one p _).mono ?_⟩
      rintro r e w8 ⟨hr, he⟩
      have H := H.keep he
      simp only [base3, List.nil_append, List.cons_append] at H
      iterate 2 (refine H.st 5 rfl (by simp) fun _ H => ?_; simp only [List.nil_append, List.cons_append, List.set_cons_zero, List.set_cons_succ, Nat.zero_add] at H)
      exact ⟨_, r, e, rfl, hr, H⟩
  rintro _ w12 ⟨g3, q, e, rfl, hq, H⟩
  unfold S4J1
  simp only [base3, List.nil_append, List.cons_append] at H
  dsimp only
  iterate 6 refine H.ld 2 rfl rfl ?_
  iterate 6 refine H.ld 0 rfl rfl ?_
  refine Lt.of (Br.f (by simp) (Br.f rfl ?_))
  iterate 6 refine H.ld 3 rfl rfl ?_
  iterate 6 refine H.ld 0 rfl rfl ?_
  refine Lt.of (Br.f (by simp) (Br.f rfl ?_))
  iterate 6 refine H.ld 4 rfl rfl ?_
  iterate 6 refine H.ld 0 rfl rfl ?_
  refine Lt.of (Br.f (by simp) (Br.f rfl ?_))
  have hfar : ¬ (inW p.1 = true ∧ inW p.2 = true) → ((e == 2) = true ∧ Ext (fun _ => False) w w12) := fun h => by
    rw [app_far h] at hq
    cases hq
    exact ⟨rfl, H.ext⟩
  refine H.ld 1 rfl rfl (Br.dec (fun h => hfar fun k => by have := inW_spec.1 k.1; omega) fun q1 => ?_)
  refine H.ld 1 rfl rfl (Br.dec (fun h => hfar fun k => by have := inW_spec.1 k.1; omega) fun q2 => ?_)
  refine H.ld 1 rfl rfl (Br.dec (fun h => hfar fun k => by have := inW_spec.1 k.2; omega) fun q3 => ?_)
  refine H.ld 1 rfl rfl (Br.dec (fun h => hfar fun k => by have := inW_spec.1 k.2; omega) fun q4 => ?_)
  rw [app_one (inW_spec.2 (by omega)) (inW_spec.2 (by omega))] at hq
  cases hq
  iterate 2 refine H.ld 5 rfl rfl ?_
  iterate 2 refine H.ld 1 rfl rfl ?_
  exact Br.t (by simp) ⟨rfl, H.ext⟩
end
end Mat
end Go.Proofs.Ytjlaijhmnlkpiaa
