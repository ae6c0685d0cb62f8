/- Plain laws of matrices; whole(), near(). Conditions: sizes. -/
import Derived.Test.YtjlaijhmnlkpiaaLvM
namespace Go.Proofs.Ytjlaijhmnlkpiaa
namespace Mat
open Sh Fix
set_option linter.unusedVariables false
set_option linter.unusedSimpArgs false
set_option maxRecDepth 4000
set_option maxHeartbeats 1000000
theorem bdm {x y A B : Int} (hx : -A ≤ x ∧ x ≤ A) (hy : -B ≤ y ∧ y ≤ B) : -(A * B) ≤ x * y ∧ x * y ≤ A * B := by
  have h : (x * y).natAbs = x.natAbs * y.natAbs := Int.natAbs_mul x y
  have h2 : x.natAbs * y.natAbs ≤ A.toNat * B.toNat := Nat.mul_le_mul (by omega) (by omega)
  have h3 : (A.toNat * B.toNat : Int) = A * B := by rw [Int.toNat_of_nonneg (by omega), Int.toNat_of_nonneg (by omega)]
  omega
theorem near_10k (k : Int) : Fix.near (10000 * k) = k := by unfold Fix.near; omega
theorem dot4 {a b c d n : Int} (ha : inW a = true) (hb : inW b = true) (hc : inW c = true) (hd : inW d = true) (hn : Fix.near (a * b + c * d) = n) (h : inW n = true) : dotP [a, b, c, d] = some n := by
  have hp : psum [a, b, c, d] 2 = a * b + c * d := by simp [psum]
  have hl : [a, b, c, d].length / 2 = 2 := by simp
  unfold dotP
  rw [hl, hp, hn, if_pos]
  simp [ha, hb, hc, hd, h]
theorem dot6 {a b c d e f n : Int} (ha : inW a = true) (hb : inW b = true) (hc : inW c = true) (hd : inW d = true) (he : inW e = true) (hf : inW f = true) (hn : Fix.near (a * b + c * d + e * f) = n) (h : inW n = true) : dotP [a, b, c, d, e, f] = some n := by
  have hp : psum [a, b, c, d, e, f] 3 = a * b + c * d + e * f := by simp [psum]
  have hl : [a, b, c, d, e, f].length / 2 = 3 := by simp
  unfold dotP
  rw [hl, hp, hn, if_pos]
  simp [ha, hb, hc, hd, he, hf, h]
theorem okM_of {m : Mx} (h : ∀ x ∈ comps m, inW x = true) : okM m = true := List.all_eq_true.2 h
theorem okM_get {m : Mx} (h : okM m = true) : inW m.1 = true ∧ inW m.2.1 = true ∧ inW m.2.2.1 = true ∧ inW m.2.2.2.1 = true ∧ inW m.2.2.2.2.1 = true ∧ inW m.2.2.2.2.2 = true := by
  simpa [okM, comps] using h
theorem okM_mk {m : Mx} (h : inW m.1 = true ∧ inW m.2.1 = true ∧ inW m.2.2.1 = true ∧ inW m.2.2.2.1 = true ∧ inW m.2.2.2.2.1 = true ∧ inW m.2.2.2.2.2 = true) : okM m = true := by
  simpa [okM, comps] using h
/-- The product, when all entries are known. -/
theorem mul_eq {a b m : Mx} (ha : okM a = true) (hb : okM b = true) (hm : okM m = true)
    (h1 : Fix.near (a.1 * b.1 + a.2.1 * b.2.2.1) = m.1) (h2 : Fix.near (a.1 * b.2.1 + a.2.1 * b.2.2.2.1) = m.2.1) (h3 : Fix.near (a.2.2.1 * b.1 + a.2.2.2.1 * b.2.2.1) = m.2.2.1) (h4 : Fix.near (a.2.2.1 * b.2.1 + a.2.2.2.1 * b.2.2.2.1) = m.2.2.2.1)
    (h5 : Fix.near (a.2.2.2.2.1 * b.1 + a.2.2.2.2.2 * b.2.2.1 + b.2.2.2.2.1 * 10000) = m.2.2.2.2.1) (h6 : Fix.near (a.2.2.2.2.1 * b.2.1 + a.2.2.2.2.2 * b.2.2.2.1 + b.2.2.2.2.2 * 10000) = m.2.2.2.2.2) : mulP a b = some m := by
  obtain ⟨a1, a2, a3, a4, a5, a6⟩ := okM_get ha
  obtain ⟨b1, b2, b3, b4, b5, b6⟩ := okM_get hb
  obtain ⟨m1, m2, m3, m4, m5, m6⟩ := okM_get hm
  have k : inW 10000 = true := by decide
  unfold mulP
  rw [if_pos ⟨ha, hb⟩, dot4 a1 b1 a2 b3 h1 m1, dot4 a1 b2 a2 b4 h2 m2, dot4 a3 b1 a4 b3 h3 m3, dot4 a3 b2 a4 b4 h4 m4, dot6 a5 b1 a6 b3 b5 k h5 m5, dot6 a5 b2 a6 b4 b6 k h6 m6]
  rfl
theorem app_eq {m : Mx} {p q : Int × Int} (hm : okM m = true) (hp1 : inW p.1 = true) (hp2 : inW p.2 = true) (hq1 : inW q.1 = true) (hq2 : inW q.2 = true)
    (h1 : Fix.near (p.1 * m.1 + p.2 * m.2.2.1 + m.2.2.2.2.1 * 10000) = q.1) (h2 : Fix.near (p.1 * m.2.1 + p.2 * m.2.2.2.1 + m.2.2.2.2.2 * 10000) = q.2) : applyP m p = some q := by
  obtain ⟨a1, a2, a3, a4, a5, a6⟩ := okM_get hm
  have k : inW 10000 = true := by decide
  unfold applyP
  rw [if_pos ⟨hm, hp1, hp2⟩, dot6 hp1 a1 hp2 a3 a5 k h1 hq1, dot6 hp1 a2 hp2 a4 a6 k h2 hq2]
  rfl
theorem one_ok : okM one = true := by decide
theorem mul_one {m : Mx} (h : okM m = true) : mulP m one = some m := by
  refine mul_eq h one_ok h ?_ ?_ ?_ ?_ ?_ ?_ <;> (unfold Fix.near one; simp only []; omega)
theorem one_mul {m : Mx} (h : okM m = true) : mulP one m = some m := by
  refine mul_eq one_ok h h ?_ ?_ ?_ ?_ ?_ ?_ <;> (unfold Fix.near one; simp only []; omega)
theorem app_one {p : Int × Int} (h1 : inW p.1 = true) (h2 : inW p.2 = true) : applyP one p = some p := by
  refine app_eq one_ok h1 h2 h1 h2 ?_ ?_ <;> (unfold Fix.near one; simp only []; omega)
theorem app_far {m : Mx} {p : Int × Int} (h : ¬ (inW p.1 = true ∧ inW p.2 = true)) : applyP m p = none := if_neg fun k => h k.2
theorem numV_numO {x : Int} (h : inW x = true) : numV (numO x) = some x := by
  have hb := inW_spec.1 h
  have := td x
  unfold numO numV
  by_cases ht : Int.tmod x 10000 = 0
  · rw [if_pos ht]
    simp only [if_true]
    rw [if_pos (by omega)]
    congr 1
    omega
  · rw [if_neg ht]
    simp [h]
theorem read_obj {m : Mx} {s : Slc} (h : okM m = true) : readF (6, 0, 0, ⟨#[]⟩, nilS, s) ((comps m).map numO) = (m, 0) := by
  obtain ⟨a1, a2, a3, a4, a5, a6⟩ := okM_get h
  have hl : ((comps m).map numO).length = 6 := rfl
  unfold readF
  rw [if_neg (by simp), if_neg (by simp [comps]), readK_yes hl]
  · simp only [kidN, comps, List.map, List.getD_cons_zero, List.getD_cons_succ, numV_numO a1, numV_numO a2, numV_numO a3, numV_numO a4, numV_numO a5, numV_numO a6, Option.getD_some]
  · intro j hj
    have hc : j = 0 ∨ j = 1 ∨ j = 2 ∨ j = 3 ∨ j = 4 ∨ j = 5 := by omega
    rcases hc with rfl | rfl | rfl | rfl | rfl | rfl <;> simp [comps, numV_numO a1, numV_numO a2, numV_numO a3, numV_numO a4, numV_numO a5, numV_numO a6]
/-! ### Whole matrices -/
def inS (n : Int) : Bool := decide (-20 ≤ n ∧ n ≤ 20)
def sc (m : Mx) : Mx := (10000 * m.1, 10000 * m.2.1, 10000 * m.2.2.1, 10000 * m.2.2.2.1, 10000 * m.2.2.2.2.1, 10000 * m.2.2.2.2.2)
def wholeF (m : Mx) : Mx × Bool := if (comps m).all inS = true then (sc m, true) else (m, false)
def mulZ (a b : Mx) : Mx := (a.1 * b.1 + a.2.1 * b.2.2.1, a.1 * b.2.1 + a.2.1 * b.2.2.2.1, a.2.2.1 * b.1 + a.2.2.2.1 * b.2.2.1, a.2.2.1 * b.2.1 + a.2.2.2.1 * b.2.2.2.1, a.2.2.2.2.1 * b.1 + a.2.2.2.2.2 * b.2.2.1 + b.2.2.2.2.1, a.2.2.2.2.1 * b.2.1 + a.2.2.2.2.2 * b.2.2.2.1 + b.2.2.2.2.2)
def appZ (m : Mx) (p : Int × Int) : Int × Int := (p.1 * m.1 + p.2 * m.2.2.1 + 10000 * m.2.2.2.2.1, p.1 * m.2.1 + p.2 * m.2.2.2.1 + 10000 * m.2.2.2.2.2)
def Bd (K : Int) (m : Mx) : Prop := ∀ x ∈ comps m, -K ≤ x ∧ x ≤ K
theorem Bd.get {K : Int} {m : Mx} (h : Bd K m) : (-K ≤ m.1 ∧ m.1 ≤ K) ∧ (-K ≤ m.2.1 ∧ m.2.1 ≤ K) ∧ (-K ≤ m.2.2.1 ∧ m.2.2.1 ≤ K) ∧ (-K ≤ m.2.2.2.1 ∧ m.2.2.2.1 ≤ K) ∧ (-K ≤ m.2.2.2.2.1 ∧ m.2.2.2.2.1 ≤ K) ∧ (-K ≤ m.2.2.2.2.2 ∧ m.2.2.2.2.2 ≤ K) :=
  ⟨h _ (by simp [comps]), h _ (by simp [comps]), h _ (by simp [comps]), h _ (by simp [comps]), h _ (by simp [comps]), h _ (by simp [comps])⟩
theorem Bd.mk {K : Int} {m : Mx} (h : (-K ≤ m.1 ∧ m.1 ≤ K) ∧ (-K ≤ m.2.1 ∧ m.2.1 ≤ K) ∧ (-K ≤ m.2.2.1 ∧ m.2.2.1 ≤ K) ∧ (-K ≤ m.2.2.2.1 ∧ m.2.2.2.1 ≤ K) ∧ (-K ≤ m.2.2.2.2.1 ∧ m.2.2.2.2.1 ≤ K) ∧ (-K ≤ m.2.2.2.2.2 ∧ m.2.2.2.2.2 ≤ K)) : Bd K m := by
  intro x hx
  simp only [comps, List.mem_cons, List.not_mem_nil, or_false] at hx
  rcases hx with rfl | rfl | rfl | rfl | rfl | rfl
  · exact h.1
  · exact h.2.1
  · exact h.2.2.1
  · exact h.2.2.2.1
  · exact h.2.2.2.2.1
  · exact h.2.2.2.2.2
theorem Bd.ok {m : Mx} (h : Bd 107374 m) : okM (sc m) = true := by
  have := h.get
  refine okM_mk ⟨?_, ?_, ?_, ?_, ?_, ?_⟩ <;> (simp only [sc]; exact inW_spec.2 (by omega))
theorem Bd.mono {K L : Int} {m : Mx} (h : Bd K m) (hk : K ≤ L) : Bd L m := fun x hx => by
  have := h x hx
  omega
theorem bd_mulZ {K : Int} {a b : Mx} (ha : Bd K a) (hb : Bd 20 b) : Bd (K * 20 + K * 20 + 20) (mulZ a b) := by
  obtain ⟨a1, a2, a3, a4, a5, a6⟩ := ha.get
  obtain ⟨b1, b2, b3, b4, b5, b6⟩ := hb.get
  have g1 := bdm a1 b1; have g2 := bdm a2 b3; have g3 := bdm a1 b2; have g4 := bdm a2 b4
  have g5 := bdm a3 b1; have g6 := bdm a4 b3; have g7 := bdm a3 b2; have g8 := bdm a4 b4
  have g9 := bdm a5 b1; have ga := bdm a6 b3; have gb := bdm a5 b2; have gc := bdm a6 b4
  refine Bd.mk ⟨?_, ?_, ?_, ?_, ?_, ?_⟩ <;> (simp only [mulZ]; omega)
theorem mul_sc {a b : Mx} (ha : Bd 107374 a) (hb : Bd 107374 b) (hm : Bd 107374 (mulZ a b)) : mulP (sc a) (sc b) = some (sc (mulZ a b)) := by
  have t : ∀ x y z u : Int, 10000 * x * (10000 * y) + 10000 * z * (10000 * u) = 10000 * (10000 * (x * y + z * u)) := fun x y z u => by
    rw [Int.mul_add, Int.mul_add, Int.mul_assoc, Int.mul_left_comm x, Int.mul_assoc, Int.mul_left_comm z]
  have t6 : ∀ x y z u v : Int, 10000 * x * (10000 * y) + 10000 * z * (10000 * u) + 10000 * v * 10000 = 10000 * (10000 * (x * y + z * u + v)) := fun x y z u v => by
    rw [t]; omega
  refine mul_eq ha.ok hb.ok hm.ok ?_ ?_ ?_ ?_ ?_ ?_ <;> (simp only [sc, mulZ]; first | rw [t6, near_10k] | rw [t, near_10k])
theorem app_sc {m : Mx} {p : Int × Int} (hm : Bd 107374 m) (hp1 : inW p.1 = true) (hp2 : inW p.2 = true) (hq1 : inW (appZ m p).1 = true) (hq2 : inW (appZ m p).2 = true) : applyP (sc m) p = some (appZ m p) := by
  have t6 : ∀ x y z u v : Int, x * (10000 * y) + z * (10000 * u) + 10000 * v * 10000 = 10000 * (x * y + z * u + 10000 * v) := fun x y z u v => by
    rw [Int.mul_left_comm x, Int.mul_left_comm z]; omega
  refine app_eq hm.ok hp1 hp2 hq1 hq2 ?_ ?_ <;> simp only [sc, appZ, t6, near_10k]
theorem assocZ (a b c : Mx) : mulZ (mulZ a b) c = mulZ a (mulZ b c) := by
  simp only [mulZ, Prod.mk.injEq, Int.mul_add, Int.add_mul, Int.mul_assoc]
  refine ⟨?_, ?_, ?_, ?_, ?_, ?_⟩ <;> omega
theorem appZ_mul (a b : Mx) (p : Int × Int) : appZ b (appZ a p) = appZ (mulZ a b) p := by
  simp only [mulZ, appZ, Prod.mk.injEq, Int.mul_add, Int.add_mul, Int.mul_assoc]
  refine ⟨?_, ?_⟩ <;> omega
attribute [local irreducible] Ld St Nw Nn Lt LdS
theorem c_whole (m : Mx) (w : World) : C35 m w fun r b w1 => (r, b) = wholeF m ∧ Ext (fun _ => False) w w1 := by
  refine T35 m _ _ ?_
  unfold S35
  refine (Hn.start w).nw fun w2 H => H.nw fun w3 H => ?_
  simp only [List.nil_append, List.cons_append, List.set_cons_zero, List.set_cons_succ, Nat.zero_add] at H
  iterate 6 refine H.ld 0 rfl rfl ?_
  refine H.nw fun w4 H => ?_
  simp only [List.nil_append, List.cons_append, List.set_cons_zero, List.set_cons_succ, Nat.zero_add] at H
  refine ⟨fun n st w5 => ∃ i : Nat, st = (i : Int) ∧ i ≤ 6 ∧ n = 6 - i ∧ w5 = w4 ∧ ∀ j, j < i → inS ((comps m).getD j 0) = true, 6, ⟨0, rfl, by omega, rfl, rfl, fun j hj => by omega⟩, ?_⟩
  rintro n st w5 ⟨i, rfl, hi, rfl, rfl, hall⟩
  unfold S35L1
  have hbad : ∀ j, j < 6 → inS ((comps m).getD j 0) = false → ((m.1, m.2.1, m.2.2.1, m.2.2.2.1, m.2.2.2.2.1, m.2.2.2.2.2), false) = wholeF m := fun j hj h => by
    unfold wholeF
    rw [if_neg]
    intro h2
    have := List.all_eq_true.1 h2 ((comps m).getD j 0) (by rw [List.getD_eq_getElem?_getD, List.getElem?_eq_getElem (show j < (comps m).length from hj)]; exact List.getElem_mem _)
    rw [h] at this
    cases this
  show Br (decide ((i : Int) < 6)) _ _
  refine Br.dec (fun e => ⟨by omega, by show (i : Int) < 6; omega, Nn.of ?_⟩) fun e => ?_
  · have hld : ∃ x, (comps m).getD i 0 = x ∧ ∀ K : Int → Prop, K x → Ld w5 ((⟨w3.heap.size, 0, none⟩ : Addr).add ((i : Int).toNat * 1)) (Value.int .i64) K := by
      have hc : i = 0 ∨ i = 1 ∨ i = 2 ∨ i = 3 ∨ i = 4 ∨ i = 5 := by omega
      rcases hc with rfl | rfl | rfl | rfl | rfl | rfl <;> exact ⟨_, rfl, fun K hK => H.ld 2 rfl rfl hK⟩
    obtain ⟨x, hx, hld⟩ := hld
    refine hld _ (Br.dec (fun h => ?_) fun h => Br.dec (fun h2 => ?_) fun h2 => ?_)
    · iterate 6 refine H.ld 0 rfl rfl ?_
      iterate 6 (refine H.st 1 rfl (by simp) fun _ H => ?_; simp only [List.nil_append, List.cons_append, List.set_cons_zero, List.set_cons_succ, Nat.zero_add] at H)
      iterate 6 refine H.ld 1 rfl rfl ?_
      exact ⟨hbad i (by omega) (by rw [hx]; unfold inS; exact decide_eq_false (by omega)), H.ext⟩
    · iterate 6 refine H.ld 0 rfl rfl ?_
      iterate 6 (refine H.st 1 rfl (by simp) fun _ H => ?_; simp only [List.nil_append, List.cons_append, List.set_cons_zero, List.set_cons_succ, Nat.zero_add] at H)
      iterate 6 refine H.ld 1 rfl rfl ?_
      exact ⟨hbad i (by omega) (by rw [hx]; unfold inS; exact decide_eq_false (by omega)), H.ext⟩
    · refine ⟨6 - (i + 1), by omega, i + 1, by rw [i64_id (by omega)]; rfl, by omega, rfl, rfl, fun j hj => ?_⟩
      by_cases hji : j = i
      · rw [hji, hx]; unfold inS; exact decide_eq_true (by omega)
      · exact hall j (by omega)
  · have hs : (comps m).all inS = true := by
      rw [List.all_eq_true]
      intro x hx
      obtain ⟨j, hj, rfl⟩ := List.mem_iff_getElem.1 hx
      have := hall j (by have : j < 6 := hj; omega)
      rwa [List.getD_eq_getElem?_getD, List.getElem?_eq_getElem hj] at this
    have hb : Bd 20 m := fun x hx => by
      have := List.all_eq_true.1 hs x hx
      unfold inS at this
      simpa using this
    have hg := hb.get
    iterate 6 refine H.ld 0 rfl rfl ?_
    rw [i64_id (by omega), i64_id (by omega), i64_id (by omega), i64_id (by omega), i64_id (by omega), i64_id (by omega)]
    iterate 6 (refine H.st 1 rfl (by simp) fun _ H => ?_; simp only [List.nil_append, List.cons_append, List.set_cons_zero, List.set_cons_succ, Nat.zero_add] at H)
    iterate 6 refine H.ld 1 rfl rfl ?_
    refine ⟨?_, H.ext⟩
    unfold wholeF
    rw [if_pos hs]
    rfl
theorem wholeF_yes {m r : Mx} (h : (r, true) = wholeF m) : r = sc m ∧ Bd 20 m := by
  unfold wholeF at h
  split at h
  · rename_i hs
    cases h
    refine ⟨rfl, fun x hx => ?_⟩
    have := List.all_eq_true.1 hs x hx
    unfold inS at this
    simpa using this
  · cases h
/-- near() of what is rounded to nearest. -/
theorem c_nearT {n s : Int} (hs : -1000000000000000 ≤ s ∧ s ≤ 1000000000000000) (hn : n = Fix.near s) (w : World) : C36 n s w fun r w1 => r = true ∧ w1 = w := by
  refine T36 _ _ _ _ ?_
  unfold S36
  unfold Fix.near at hn
  rw [i64_id (n := 20000 * n) (by omega), i64_id (n := 2 * s) (by omega), i64_id (by omega)]
  refine Lt.of (Br.t (decide_eq_true (by omega)) (Lt.of ⟨decide_eq_true (by omega), rfl⟩))
end Mat
end Go.Proofs.Ytjlaijhmnlkpiaa
