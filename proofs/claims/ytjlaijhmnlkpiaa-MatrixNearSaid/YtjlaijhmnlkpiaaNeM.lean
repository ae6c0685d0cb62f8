/- MatrixNear, MatrixComposes: the walks. Conditions: none. -/
import Derived.Test.YtjlaijhmnlkpiaaLwM
namespace Go.Proofs.Ytjlaijhmnlkpiaa
namespace Mat
open Sh Fix
set_option linter.unusedVariables false
set_option linter.unusedSimpArgs false
set_option maxRecDepth 4000
set_option maxHeartbeats 2000000
/-- The numbers that MatrixNear looks at. -/
def vals14 (a b : Mx) (p : Int × Int) : List Int := comps a ++ comps b ++ [p.1, p.2]
theorem nr_sum {x y z t : Int} (h1 : -2000000 ≤ x ∧ x ≤ 2000000) (h2 : -2000000 ≤ y ∧ y ≤ 2000000) (h3 : -2000000 ≤ z ∧ z ≤ 2000000) (h4 : -2000000 ≤ t ∧ t ≤ 2000000) :
    (-4000000000000 ≤ x * y ∧ x * y ≤ 4000000000000) ∧ (-4000000000000 ≤ z * t ∧ z * t ≤ 4000000000000) := by
  have g1 := bdm h1 h2
  have g2 := bdm h3 h4
  omega
attribute [local irreducible] Ld St Nw Nn Lt LdS
theorem c_nr4 {x y z t n : Int} (h1 : -2000000 ≤ x ∧ x ≤ 2000000) (h2 : -2000000 ≤ y ∧ y ≤ 2000000) (h3 : -2000000 ≤ z ∧ z ≤ 2000000) (h4 : -2000000 ≤ t ∧ t ≤ 2000000) (hn : n = Fix.near (x * y + z * t)) (w : World) :
    C36 n (IntKind.i64.wrap ((IntKind.i64.wrap (x * y)) + (IntKind.i64.wrap (z * t)))) w fun r w1 => r = true ∧ w1 = w := by
  obtain ⟨g1, g2⟩ := nr_sum h1 h2 h3 h4
  rw [i64_id (n := x * y) (by omega), i64_id (n := z * t) (by omega), i64_id (by omega)]
  exact c_nearT (by omega) hn w
theorem c_nr6 {x y z t e n : Int} (h1 : -2000000 ≤ x ∧ x ≤ 2000000) (h2 : -2000000 ≤ y ∧ y ≤ 2000000) (h3 : -2000000 ≤ z ∧ z ≤ 2000000) (h4 : -2000000 ≤ t ∧ t ≤ 2000000) (h5 : -2000000 ≤ e ∧ e ≤ 2000000) (hn : n = Fix.near (x * y + z * t + e * 10000)) (w : World) :
    C36 n (IntKind.i64.wrap ((IntKind.i64.wrap ((IntKind.i64.wrap (x * y)) + (IntKind.i64.wrap (z * t)))) + (IntKind.i64.wrap (10000 * e)))) w fun r w1 => r = true ∧ w1 = w := by
  obtain ⟨g1, g2⟩ := nr_sum h1 h2 h3 h4
  rw [i64_id (n := x * y) (by omega), i64_id (n := z * t) (by omega), i64_id (n := x * y + z * t) (by omega), i64_id (n := 10000 * e) (by omega), i64_id (by omega)]
  exact c_nearT (by omega) (by rw [hn, Int.mul_comm e]) w
def mulN (a b : Mx) : Mx := (Fix.near (a.1 * b.1 + a.2.1 * b.2.2.1), Fix.near (a.1 * b.2.1 + a.2.1 * b.2.2.2.1), Fix.near (a.2.2.1 * b.1 + a.2.2.2.1 * b.2.2.1), Fix.near (a.2.2.1 * b.2.1 + a.2.2.2.1 * b.2.2.2.1),
  Fix.near (a.2.2.2.2.1 * b.1 + a.2.2.2.2.2 * b.2.2.1 + b.2.2.2.2.1 * 10000), Fix.near (a.2.2.2.2.1 * b.2.1 + a.2.2.2.2.2 * b.2.2.2.1 + b.2.2.2.2.2 * 10000))
def appN (m : Mx) (p : Int × Int) : Int × Int := (Fix.near (p.1 * m.1 + p.2 * m.2.2.1 + m.2.2.2.2.1 * 10000), Fix.near (p.1 * m.2.1 + p.2 * m.2.2.2.1 + m.2.2.2.2.2 * 10000))
theorem near_in {s : Int} (h : -8100000000000 ≤ s ∧ s ≤ 8100000000000) : inW (Fix.near s) = true := inW_spec.2 (by unfold Fix.near; omega)
theorem Bd.okM {m : Mx} (h : Bd 2000000 m) : okM m = true := List.all_eq_true.2 fun x hx => inW_spec.2 (by have := h x hx; omega)
theorem mul_near {a b : Mx} (ha : Bd 2000000 a) (hb : Bd 2000000 b) : mulP a b = some (mulN a b) := by
  obtain ⟨a1, a2, a3, a4, a5, a6⟩ := ha.get
  obtain ⟨b1, b2, b3, b4, b5, b6⟩ := hb.get
  have g1 := nr_sum a1 b1 a2 b3; have g2 := nr_sum a1 b2 a2 b4; have g3 := nr_sum a3 b1 a4 b3; have g4 := nr_sum a3 b2 a4 b4; have g5 := nr_sum a5 b1 a6 b3; have g6 := nr_sum a5 b2 a6 b4
  exact mul_eq ha.okM hb.okM (okM_mk ⟨near_in (by omega), near_in (by omega), near_in (by omega), near_in (by omega), near_in (by omega), near_in (by omega)⟩) rfl rfl rfl rfl rfl rfl
theorem app_near {a : Mx} {p : Int × Int} (ha : Bd 2000000 a) (h1 : -2000000 ≤ p.1 ∧ p.1 ≤ 2000000) (h2 : -2000000 ≤ p.2 ∧ p.2 ≤ 2000000) : applyP a p = some (appN a p) := by
  obtain ⟨a1, a2, a3, a4, a5, a6⟩ := ha.get
  have g1 := nr_sum h1 a1 h2 a3; have g2 := nr_sum h1 a2 h2 a4
  exact app_eq ha.okM (inW_spec.2 (by omega)) (inW_spec.2 (by omega)) (near_in (by omega)) (near_in (by omega)) rfl rfl
theorem near_law (a b : Mx) (p : Int × Int) (w : World) : C6 a b p w fun r w1 => r = true ∧ Ext (fun _ => False) w w1 := by
  refine T6 a b p _ _ ?_
  unfold S6
  refine (Hn.start w).nw fun w2 H => H.nw fun w3 H => H.nw fun w4 H => (c_lives _).mono ?_
  rintro r w5 ⟨rfl, he⟩
  have H := H.keep he
  simp only [List.nil_append, List.cons_append, List.set_cons_zero, List.set_cons_succ, Nat.zero_add] at H
  refine Br.f rfl ?_
  iterate 6 refine H.ld 0 rfl rfl ?_
  iterate 6 refine H.ld 1 rfl rfl ?_
  iterate 2 refine H.ld 2 rfl rfl ?_
  refine H.nw fun w6 H => ?_
  simp only [List.nil_append, List.cons_append, List.set_cons_zero, List.set_cons_succ, Nat.zero_add] at H
  refine ⟨fun n st w7 => ∃ i : Nat, st = (i : Int) ∧ i ≤ 14 ∧ n = 14 - i ∧ w7 = w6 ∧ ∀ j, j < i → -2000000 ≤ (vals14 a b p).getD j 0 ∧ (vals14 a b p).getD j 0 ≤ 2000000, 14, ⟨0, rfl, by omega, rfl, rfl, fun j hj => by omega⟩, ?_⟩
  rintro n st w7 ⟨i, rfl, hi, rfl, rfl, hall⟩
  unfold S6L1
  show Br (decide ((i : Int) < 14)) _ _
  refine Br.dec (fun e => ⟨by omega, by show (i : Int) < 14; omega, Nn.of ?_⟩) fun e => ?_
  · have hlen : (vals14 a b p).length = 14 := rfl
    have hx : ((vals14 a b p).map (Value.int .i64))[i]? = some (.int .i64 ((vals14 a b p).getD i 0)) := by
      rw [List.getElem?_map, List.getD_eq_getElem?_getD, List.getElem?_eq_getElem (by omega)]
      rfl
    have ha : (⟨w5.heap.size, 0, none⟩ : Addr).add ((i : Int).toNat * 1) = ⟨w5.heap.size, i, none⟩ := by rw [add_lit]; simp
    show Ld w7 ((⟨w5.heap.size, 0, none⟩ : Addr).add ((i : Int).toNat * 1)) _ _
    rw [ha]
    refine H.ld 3 rfl hx (Br.dec (fun _ => ⟨rfl, H.ext⟩) fun h => Br.dec (fun _ => ⟨rfl, H.ext⟩) fun h2 => ?_)
    refine ⟨14 - (i + 1), by omega, i + 1, by rw [i64_id (by omega)]; rfl, by omega, rfl, rfl, fun j hj => ?_⟩
    by_cases hji : j = i
    · rw [hji]; omega
    · exact hall j (by omega)
  · have hA : Bd 2000000 a := Bd.mk ⟨hall 0 (by omega), hall 1 (by omega), hall 2 (by omega), hall 3 (by omega), hall 4 (by omega), hall 5 (by omega)⟩
    have hB : Bd 2000000 b := Bd.mk ⟨hall 6 (by omega), hall 7 (by omega), hall 8 (by omega), hall 9 (by omega), hall 10 (by omega), hall 11 (by omega)⟩
    have p1 : -2000000 ≤ p.1 ∧ p.1 ≤ 2000000 := hall 12 (by omega)
    have p2 : -2000000 ≤ p.2 ∧ p.2 ≤ 2000000 := hall 13 (by omega)
    obtain ⟨a1, a2, a3, a4, a5, a6⟩ := hA.get
    obtain ⟨b1, b2, b3, b4, b5, b6⟩ := hB.get
    iterate 6 refine H.ld 0 rfl rfl ?_
    iterate 6 refine H.ld 1 rfl rfl ?_
    refine (c_mul a b _).mono ?_
    rintro r e w8 ⟨hr, he⟩
    have H := H.keep he
    rw [mul_near hA hB] at hr
    cases hr
    dsimp only
    refine H.nw fun w9 H => ?_
    simp only [List.nil_append, List.cons_append, List.set_cons_zero, List.set_cons_succ, Nat.zero_add] at H
    iterate 6 (refine H.st 4 rfl (by simp) fun _ H => ?_; simp only [List.nil_append, List.cons_append, List.set_cons_zero, List.set_cons_succ, Nat.zero_add] at H)
    iterate 6 refine H.ld 0 rfl rfl ?_
    iterate 2 refine H.ld 2 rfl rfl ?_
    refine (c_apply a p _).mono ?_
    rintro r e w10 ⟨hr, he⟩
    have H := H.keep he
    rw [app_near hA p1 p2] at hr
    cases hr
    refine H.nw fun w11 H => ?_
    simp only [List.nil_append, List.cons_append, List.set_cons_zero, List.set_cons_succ, Nat.zero_add] at H
    iterate 2 (refine H.st 5 rfl (by simp) fun _ H => ?_; simp only [List.nil_append, List.cons_append, List.set_cons_zero, List.set_cons_succ, Nat.zero_add] at H)
    refine Br.f rfl (Br.f rfl ?_)
    iterate 1 refine H.ld 4 rfl rfl ?_
    refine H.ld 0 rfl rfl (H.ld 1 rfl rfl (H.ld 0 rfl rfl (H.ld 1 rfl rfl ((c_nr4 a1 b1 a2 b3 rfl _).mono ?_))))
    rintro r _ ⟨rfl, rfl⟩
    refine Br.t rfl ?_
    iterate 1 refine H.ld 4 rfl rfl ?_
    refine H.ld 0 rfl rfl (H.ld 1 rfl rfl (H.ld 0 rfl rfl (H.ld 1 rfl rfl ((c_nr4 a1 b2 a2 b4 rfl _).mono ?_))))
    rintro r _ ⟨rfl, rfl⟩
    refine Br.t rfl ?_
    iterate 1 refine H.ld 4 rfl rfl ?_
    refine H.ld 0 rfl rfl (H.ld 1 rfl rfl (H.ld 0 rfl rfl (H.ld 1 rfl rfl ((c_nr4 a3 b1 a4 b3 rfl _).mono ?_))))
    rintro r _ ⟨rfl, rfl⟩
    refine Br.t rfl ?_
    iterate 1 refine H.ld 4 rfl rfl ?_
    refine H.ld 0 rfl rfl (H.ld 1 rfl rfl (H.ld 0 rfl rfl (H.ld 1 rfl rfl ((c_nr4 a3 b2 a4 b4 rfl _).mono ?_))))
    rintro r _ ⟨rfl, rfl⟩
    refine Br.t rfl ?_
    iterate 1 refine H.ld 4 rfl rfl ?_
    refine H.ld 0 rfl rfl (H.ld 1 rfl rfl (H.ld 0 rfl rfl (H.ld 1 rfl rfl (H.ld 1 rfl rfl (Lt.of ((c_nr6 a5 b1 a6 b3 b5 rfl _).mono ?_))))))
    rintro r _ ⟨rfl, rfl⟩
    refine Br.t rfl ?_
    iterate 1 refine H.ld 4 rfl rfl ?_
    refine H.ld 0 rfl rfl (H.ld 1 rfl rfl (H.ld 0 rfl rfl (H.ld 1 rfl rfl (H.ld 1 rfl rfl (Lt.of ((c_nr6 a5 b2 a6 b4 b6 rfl _).mono ?_))))))
    rintro r _ ⟨rfl, rfl⟩
    refine Br.t rfl ?_
    iterate 1 refine H.ld 5 rfl rfl ?_
    refine H.ld 2 rfl rfl (H.ld 0 rfl rfl (H.ld 2 rfl rfl (H.ld 0 rfl rfl (H.ld 0 rfl rfl (Lt.of ((c_nr6 p1 a1 p2 a3 a5 rfl _).mono ?_))))))
    rintro r _ ⟨rfl, rfl⟩
    refine Br.t rfl ?_
    iterate 1 refine H.ld 5 rfl rfl ?_
    refine H.ld 2 rfl rfl (H.ld 0 rfl rfl (H.ld 2 rfl rfl (H.ld 0 rfl rfl (H.ld 0 rfl rfl (Lt.of ((c_nr6 p1 a2 p2 a4 a6 rfl _).mono ?_))))))
    rintro r _ ⟨rfl, rfl⟩
    exact ⟨rfl, H.ext⟩
end Mat
end Go.Proofs.Ytjlaijhmnlkpiaa
