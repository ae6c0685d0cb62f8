/- MatrixComposes: the walk. Conditions: none. -/
import Derived.Test.YtjlaijhmnlkpiaaLwM
namespace Go.Proofs.Ytjlaijhmnlkpiaa
namespace Mat
open Sh Fix
set_option linter.unusedVariables false
set_option linter.unusedSimpArgs false
set_option maxRecDepth 4000
set_option maxHeartbeats 2000000
theorem wholeF_ne {m r : Mx} {b : Bool} (h : (r, b) = wholeF m) : b = false ∨ (b = true ∧ r = sc m ∧ Bd 20 m) := by
  cases b with
  | false => exact .inl rfl
  | true => exact .inr ⟨rfl, wholeF_yes h⟩
theorem bd_app {K L : Int} {m : Mx} {p : Int × Int} (hm : Bd L m) (h1 : -K ≤ p.1 ∧ p.1 ≤ K) (h2 : -K ≤ p.2 ∧ p.2 ≤ K) : (-(K * L + K * L + 10000 * L) ≤ (appZ m p).1 ∧ (appZ m p).1 ≤ K * L + K * L + 10000 * L) ∧ (-(K * L + K * L + 10000 * L) ≤ (appZ m p).2 ∧ (appZ m p).2 ≤ K * L + K * L + 10000 * L) := by
  obtain ⟨a1, a2, a3, a4, a5, a6⟩ := hm.get
  have g1 := bdm h1 a1; have g2 := bdm h2 a3; have g3 := bdm h1 a2; have g4 := bdm h2 a4
  simp only [appZ]
  omega
attribute [local irreducible] Ld St Nw Nn Lt LdS
theorem composes_law (a b c : Mx) (p : Int × Int) (w : World) : C5 a b c p w fun r w1 => r = true ∧ Ext (fun _ => False) w w1 := by
  refine T5 a b c p _ _ ?_
  unfold S5
  refine (Hn.start w).nw fun w2 H => H.nw fun w3 H => H.nw fun w4 H => H.nw fun w5 H => (c_lives _).mono ?_
  rintro r w6 ⟨rfl, he⟩
  have H := H.keep he
  simp only [List.nil_append, List.cons_append, List.set_cons_zero, List.set_cons_succ, Nat.zero_add] at H
  refine Br.f rfl ?_
  iterate 6 refine H.ld 0 rfl rfl ?_
  refine (c_whole a _).mono ?_
  rintro x kx w7 ⟨hx, he⟩
  have H := H.keep he
  refine H.nw fun w8 H => ?_
  simp only [List.nil_append, List.cons_append, List.set_cons_zero, List.set_cons_succ, Nat.zero_add] at H
  iterate 6 (refine H.st 4 rfl (by simp) fun _ H => ?_; simp only [List.nil_append, List.cons_append, List.set_cons_zero, List.set_cons_succ, Nat.zero_add] at H)
  iterate 6 refine H.ld 1 rfl rfl ?_
  refine (c_whole b _).mono ?_
  rintro y ky w9 ⟨hy, he⟩
  have H := H.keep he
  refine H.nw fun w10 H => ?_
  simp only [List.nil_append, List.cons_append, List.set_cons_zero, List.set_cons_succ, Nat.zero_add] at H
  iterate 6 (refine H.st 5 rfl (by simp) fun _ H => ?_; simp only [List.nil_append, List.cons_append, List.set_cons_zero, List.set_cons_succ, Nat.zero_add] at H)
  iterate 6 refine H.ld 2 rfl rfl ?_
  refine (c_whole c _).mono ?_
  rintro z kz w11 ⟨hz, he⟩
  have H := H.keep he
  refine H.nw fun w12 H => ?_
  simp only [List.nil_append, List.cons_append, List.set_cons_zero, List.set_cons_succ, Nat.zero_add] at H
  iterate 6 (refine H.st 6 rfl (by simp) fun _ H => ?_; simp only [List.nil_append, List.cons_append, List.set_cons_zero, List.set_cons_succ, Nat.zero_add] at H)
  rcases wholeF_ne hx with rfl | ⟨rfl, rfl, bx⟩
  · exact Br.t rfl ⟨rfl, H.ext⟩
  refine Br.f rfl ?_
  rcases wholeF_ne hy with rfl | ⟨rfl, rfl, byy⟩
  · exact Br.t rfl ⟨rfl, H.ext⟩
  refine Br.f rfl ?_
  rcases wholeF_ne hz with rfl | ⟨rfl, rfl, bz⟩
  · exact Br.t rfl ⟨rfl, H.ext⟩
  refine Br.f rfl ?_
  refine H.ld 3 rfl rfl (Br.dec (fun _ => ⟨rfl, H.ext⟩) fun q1 => ?_)
  refine H.ld 3 rfl rfl (Br.dec (fun _ => ⟨rfl, H.ext⟩) fun q2 => ?_)
  refine H.ld 3 rfl rfl (Br.dec (fun _ => ⟨rfl, H.ext⟩) fun q3 => ?_)
  refine H.ld 3 rfl rfl (Br.dec (fun _ => ⟨rfl, H.ext⟩) fun q4 => ?_)
  have p1 : -1000 ≤ p.1 ∧ p.1 ≤ 1000 := by omega
  have p2 : -1000 ≤ p.2 ∧ p.2 ≤ 1000 := by omega
  have bxy : Bd 820 (mulZ a b) := bd_mulZ bx byy
  have byz : Bd 820 (mulZ b c) := bd_mulZ byy bz
  have bxyz : Bd 32820 (mulZ (mulZ a b) c) := bd_mulZ bxy bz
  have bxyz2 : Bd 107374 (mulZ a (mulZ b c)) := by rw [← assocZ]; exact bxyz.mono (by omega)
  have q := bd_app bx p1 p2
  have r1 := bd_app byy (p := appZ a p) (K := 240000) (by omega) (by omega)
  have hpw : inW p.1 = true ∧ inW p.2 = true := ⟨inW_spec.2 (by omega), inW_spec.2 (by omega)⟩
  have hqw : inW (appZ a p).1 = true ∧ inW (appZ a p).2 = true := ⟨inW_spec.2 (by omega), inW_spec.2 (by omega)⟩
  have hrw : inW (appZ b (appZ a p)).1 = true ∧ inW (appZ b (appZ a p)).2 = true := ⟨inW_spec.2 (by omega), inW_spec.2 (by omega)⟩
  iterate 6 refine H.ld 4 rfl rfl ?_
  iterate 6 refine H.ld 5 rfl rfl ?_
  refine (c_mul (sc a) (sc b) _).mono ?_
  rintro r e w13 ⟨hr, he⟩
  have H := H.keep he
  rw [mul_sc (bx.mono (by omega)) (byy.mono (by omega)) (bxy.mono (by omega))] at hr
  cases hr
  refine H.nw fun w14 H => ?_
  simp only [List.nil_append, List.cons_append, List.set_cons_zero, List.set_cons_succ, Nat.zero_add] at H
  iterate 6 (refine H.st 7 rfl (by simp) fun _ H => ?_; simp only [List.nil_append, List.cons_append, List.set_cons_zero, List.set_cons_succ, Nat.zero_add] at H)
  iterate 6 refine H.ld 7 rfl rfl ?_
  iterate 6 refine H.ld 6 rfl rfl ?_
  refine (c_mul (sc (mulZ a b)) (sc c) _).mono ?_
  rintro r e w15 ⟨hr, he⟩
  have H := H.keep he
  rw [mul_sc (bxy.mono (by omega)) (bz.mono (by omega)) (bxyz.mono (by omega))] at hr
  cases hr
  refine H.nw fun w16 H => ?_
  simp only [List.nil_append, List.cons_append, List.set_cons_zero, List.set_cons_succ, Nat.zero_add] at H
  iterate 6 (refine H.st 8 rfl (by simp) fun _ H => ?_; simp only [List.nil_append, List.cons_append, List.set_cons_zero, List.set_cons_succ, Nat.zero_add] at H)
  iterate 6 refine H.ld 5 rfl rfl ?_
  iterate 6 refine H.ld 6 rfl rfl ?_
  refine (c_mul (sc b) (sc c) _).mono ?_
  rintro r e w17 ⟨hr, he⟩
  have H := H.keep he
  rw [mul_sc (byy.mono (by omega)) (bz.mono (by omega)) (byz.mono (by omega))] at hr
  cases hr
  refine H.nw fun w18 H => ?_
  simp only [List.nil_append, List.cons_append, List.set_cons_zero, List.set_cons_succ, Nat.zero_add] at H
  iterate 6 (refine H.st 9 rfl (by simp) fun _ H => ?_; simp only [List.nil_append, List.cons_append, List.set_cons_zero, List.set_cons_succ, Nat.zero_add] at H)
  iterate 6 refine H.ld 4 rfl rfl ?_
  iterate 6 refine H.ld 9 rfl rfl ?_
  refine (c_mul (sc a) (sc (mulZ b c)) _).mono ?_
  rintro r e w19 ⟨hr, he⟩
  have H := H.keep he
  rw [mul_sc (bx.mono (by omega)) (byz.mono (by omega)) bxyz2] at hr
  cases hr
  refine H.nw fun w20 H => ?_
  simp only [List.nil_append, List.cons_append, List.set_cons_zero, List.set_cons_succ, Nat.zero_add] at H
  iterate 6 (refine H.st 10 rfl (by simp) fun _ H => ?_; simp only [List.nil_append, List.cons_append, List.set_cons_zero, List.set_cons_succ, Nat.zero_add] at H)
  iterate 6 refine H.ld 4 rfl rfl ?_
  iterate 2 refine H.ld 3 rfl rfl ?_
  refine (c_apply (sc a) p _).mono ?_
  rintro r e w21 ⟨hr, he⟩
  have H := H.keep he
  rw [app_sc (bx.mono (by omega)) hpw.1 hpw.2 hqw.1 hqw.2] at hr
  cases hr
  refine H.nw fun w22 H => ?_
  simp only [List.nil_append, List.cons_append, List.set_cons_zero, List.set_cons_succ, Nat.zero_add] at H
  iterate 2 (refine H.st 11 rfl (by simp) fun _ H => ?_; simp only [List.nil_append, List.cons_append, List.set_cons_zero, List.set_cons_succ, Nat.zero_add] at H)
  iterate 6 refine H.ld 5 rfl rfl ?_
  iterate 2 refine H.ld 11 rfl rfl ?_
  refine (c_apply (sc b) (appZ a p) _).mono ?_
  rintro r e w23 ⟨hr, he⟩
  have H := H.keep he
  rw [app_sc (byy.mono (by omega)) hqw.1 hqw.2 hrw.1 hrw.2] at hr
  cases hr
  refine H.nw fun w24 H => ?_
  simp only [List.nil_append, List.cons_append, List.set_cons_zero, List.set_cons_succ, Nat.zero_add] at H
  iterate 2 (refine H.st 12 rfl (by simp) fun _ H => ?_; simp only [List.nil_append, List.cons_append, List.set_cons_zero, List.set_cons_succ, Nat.zero_add] at H)
  iterate 6 refine H.ld 7 rfl rfl ?_
  iterate 2 refine H.ld 3 rfl rfl ?_
  refine (c_apply (sc (mulZ a b)) p _).mono ?_
  rintro r e w25 ⟨hr, he⟩
  have H := H.keep he
  rw [app_sc (bxy.mono (by omega)) hpw.1 hpw.2 (by rw [← appZ_mul]; exact hrw.1) (by rw [← appZ_mul]; exact hrw.2)] at hr
  cases hr
  refine H.nw fun w26 H => ?_
  simp only [List.nil_append, List.cons_append, List.set_cons_zero, List.set_cons_succ, Nat.zero_add] at H
  iterate 2 (refine H.st 13 rfl (by simp) fun _ H => ?_; simp only [List.nil_append, List.cons_append, List.set_cons_zero, List.set_cons_succ, Nat.zero_add] at H)
  refine Br.t rfl (Br.t rfl (Br.t rfl (Br.t rfl (Br.t rfl (Br.t rfl (Br.t rfl ?_))))))
  iterate 6 refine H.ld 8 rfl rfl ?_
  iterate 6 refine H.ld 10 rfl rfl ?_
  refine Lt.of (Br.t ?_ ?_)
  · rw [assocZ]
    simp
  iterate 2 refine H.ld 12 rfl rfl ?_
  iterate 2 refine H.ld 13 rfl rfl ?_
  refine ⟨?_, H.ext⟩
  rw [appZ_mul]
  simp
end Mat
end Go.Proofs.Ytjlaijhmnlkpiaa
