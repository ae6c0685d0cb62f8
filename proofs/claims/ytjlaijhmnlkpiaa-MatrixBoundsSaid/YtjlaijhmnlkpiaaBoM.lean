/- MatrixBounds: the walk. Conditions: none. -/
import Derived.Test.YtjlaijhmnlkpiaaLwM
namespace Go.Proofs.Ytjlaijhmnlkpiaa
namespace Mat
open Sh Fix
set_option linter.unusedVariables false
set_option linter.unusedSimpArgs false
set_option maxRecDepth 4000
set_option maxHeartbeats 2000000
abbrev Bx := Int × Int × Int × Int
theorem box_step {m : Mx} {r b : Bx} {k : Nat} (h : boxK m r (k + 1) = some b) : ∃ b' q, boxK m r k = some b' ∧ applyP m (corner r (k + 1)) = some q ∧
    b = ((if q.1 < b'.1 then q.1 else b'.1), (if q.2 < b'.2.1 then q.2 else b'.2.1), (if q.1 > b'.2.2.1 then q.1 else b'.2.2.1), (if q.2 > b'.2.2.2 then q.2 else b'.2.2.2)) := by
  unfold boxK at h
  obtain ⟨b', h1, h⟩ := Option.bind_eq_some_iff.1 h
  obtain ⟨q, h2, h⟩ := Option.map_eq_some_iff.1 h
  exact ⟨b', q, h1, h2, h.symm⟩
theorem mnl (x y : Int) : (if x < y then x else y) ≤ x ∧ (if x < y then x else y) ≤ y ∧ ((if x < y then x else y) = x ∨ (if x < y then x else y) = y) := by split <;> omega
theorem mxl (x y : Int) : x ≤ (if x > y then x else y) ∧ y ≤ (if x > y then x else y) ∧ ((if x > y then x else y) = x ∨ (if x > y then x else y) = y) := by split <;> omega
def fl (f : Nat → Bool) (i : Nat) : Bool := (List.range i).any f
theorem fl_succ (f : Nat → Bool) (i : Nat) : fl f (i + 1) = (fl f i || f i) := by simp [fl, List.range_succ]
/-- Box b contains the first k + 1 images and touches one on each side. -/
def Tight (m : Mx) (r b : Bx) (k : Nat) : Prop := (∀ i, i ≤ k → ∃ q, applyP m (corner r i) = some q ∧ b.1 ≤ q.1 ∧ q.1 ≤ b.2.2.1 ∧ b.2.1 ≤ q.2 ∧ q.2 ≤ b.2.2.2) ∧
  (∃ i q, i ≤ k ∧ applyP m (corner r i) = some q ∧ q.1 = b.1) ∧ (∃ i q, i ≤ k ∧ applyP m (corner r i) = some q ∧ q.1 = b.2.2.1) ∧
  (∃ i q, i ≤ k ∧ applyP m (corner r i) = some q ∧ q.2 = b.2.1) ∧ (∃ i q, i ≤ k ∧ applyP m (corner r i) = some q ∧ q.2 = b.2.2.2)
theorem tight {m : Mx} {r : Bx} : ∀ (k : Nat) (b : Bx), boxK m r k = some b → Tight m r b k
  | 0, b, h => by
    unfold boxK at h
    obtain ⟨q, h2, rfl⟩ := Option.map_eq_some_iff.1 h
    refine ⟨fun i hi => ?_, ⟨0, q, by omega, h2, rfl⟩, ⟨0, q, by omega, h2, rfl⟩, ⟨0, q, by omega, h2, rfl⟩, ⟨0, q, by omega, h2, rfl⟩⟩
    have : i = 0 := by omega
    subst this
    exact ⟨q, h2, Int.le_refl _, Int.le_refl _, Int.le_refl _, Int.le_refl _⟩
  | k + 1, b, h => by
    obtain ⟨b', q, h1, h2, rfl⟩ := box_step h
    obtain ⟨hin, ⟨i1, q1, l1, e1, f1⟩, ⟨i2, q2, l2, e2, f2⟩, ⟨i3, q3, l3, e3, f3⟩, ⟨i4, q4, l4, e4, f4⟩⟩ := tight k b' h1
    have g1 := mnl q.1 b'.1
    have g2 := mnl q.2 b'.2.1
    have g3 := mxl q.1 b'.2.2.1
    have g4 := mxl q.2 b'.2.2.2
    refine ⟨fun i hi => ?_, ?_, ?_, ?_, ?_⟩
    · by_cases hk : i = k + 1
      · subst hk
        exact ⟨q, h2, g1.1, g3.1, g2.1, g4.1⟩
      · obtain ⟨q0, h0, a1, a2, a3, a4⟩ := hin i (by omega)
        refine ⟨q0, h0, ?_, ?_, ?_, ?_⟩ <;> dsimp only <;> omega
    · rcases g1.2.2 with g | g
      · exact ⟨k + 1, q, by omega, h2, g.symm⟩
      · exact ⟨i1, q1, by omega, e1, f1.trans g.symm⟩
    · rcases g3.2.2 with g | g
      · exact ⟨k + 1, q, by omega, h2, g.symm⟩
      · exact ⟨i2, q2, by omega, e2, f2.trans g.symm⟩
    · rcases g2.2.2 with g | g
      · exact ⟨k + 1, q, by omega, h2, g.symm⟩
      · exact ⟨i3, q3, by omega, e3, f3.trans g.symm⟩
    · rcases g4.2.2 with g | g
      · exact ⟨k + 1, q, by omega, h2, g.symm⟩
      · exact ⟨i4, q4, by omega, e4, f4.trans g.symm⟩
/-- The image of corner i. -/
def img (m : Mx) (r : Bx) (i : Nat) : Int × Int := (applyP m (corner r i)).getD (0, 0)
theorem fl_true {f : Nat → Bool} {n i : Nat} (hi : i < n) (h : f i = true) : fl f n = true := List.any_eq_true.2 ⟨i, List.mem_range.2 hi, h⟩
abbrev flW (m : Mx) (r b : Bx) (i : Nat) : Bool := fl (fun j => (img m r j).1 == b.1) i
abbrev flE (m : Mx) (r b : Bx) (i : Nat) : Bool := fl (fun j => (img m r j).1 == b.2.2.1) i
abbrev flS (m : Mx) (r b : Bx) (i : Nat) : Bool := fl (fun j => (img m r j).2 == b.2.1) i
abbrev flN (m : Mx) (r b : Bx) (i : Nat) : Bool := fl (fun j => (img m r j).2 == b.2.2.2) i
theorem img_eq {m : Mx} {r : Bx} {i : Nat} {q : Int × Int} (h : applyP m (corner r i) = some q) : img m r i = q := by unfold img; rw [h]; rfl
theorem tight_fl {m : Mx} {r b : Bx} (h : Tight m r b 3) : flW m r b 4 = true ∧ flE m r b 4 = true ∧ flS m r b 4 = true ∧ flN m r b 4 = true := by
  obtain ⟨_, ⟨i1, q1, l1, e1, f1⟩, ⟨i2, q2, l2, e2, f2⟩, ⟨i3, q3, l3, e3, f3⟩, ⟨i4, q4, l4, e4, f4⟩⟩ := h
  refine ⟨fl_true (i := i1) (by omega) ?_, fl_true (i := i2) (by omega) ?_, fl_true (i := i3) (by omega) ?_, fl_true (i := i4) (by omega) ?_⟩
  · rw [img_eq e1, f1]; simp
  · rw [img_eq e2, f2]; simp
  · rw [img_eq e3, f3]; simp
  · rw [img_eq e4, f4]; simp
attribute [local irreducible] Ld St Nw Nn Lt LdS
theorem bounds_law (m : Mx) (r : Bx) (p : Int × Int) (w : World) : C7 m r p w fun r w1 => r = true ∧ Ext (fun _ => False) w w1 := by
  refine T7 m r p _ _ ?_
  unfold S7
  refine (Hn.start w).nw fun w2 H => H.nw fun w3 H => H.nw fun w4 H => (c_lives _).mono ?_
  rintro r0 w5 ⟨rfl, he⟩
  have H := H.keep he
  simp only [List.nil_append, List.cons_append, List.set_cons_zero, List.set_cons_succ, Nat.zero_add] at H
  refine Br.f rfl ?_
  iterate 6 refine H.ld 0 rfl rfl ?_
  iterate 4 refine H.ld 1 rfl rfl ?_
  refine (c_box m r _).mono ?_
  rintro b why w6 ⟨hb, he⟩
  have H := H.keep he
  refine H.nw fun w7 H => ?_
  simp only [List.nil_append, List.cons_append, List.set_cons_zero, List.set_cons_succ, Nat.zero_add] at H
  iterate 4 (refine H.st 3 rfl (by simp) fun _ H => ?_; simp only [List.nil_append, List.cons_append, List.set_cons_zero, List.set_cons_succ, Nat.zero_add] at H)
  iterate 6 refine H.ld 0 rfl rfl ?_
  iterate 2 refine H.ld 2 rfl rfl ?_
  refine (c_length m p _).mono ?_
  rintro n no w8 ⟨hn, he⟩
  have H := H.keep he
  iterate 6 refine H.ld 0 rfl rfl ?_
  refine H.nw fun w9 H => ?_
  simp only [List.nil_append, List.cons_append, List.set_cons_zero, List.set_cons_succ, Nat.zero_add] at H
  iterate 8 (refine H.st 4 rfl (by simp) fun _ H => ?_; simp only [List.nil_append, List.cons_append, List.set_cons_zero, List.set_cons_succ, Nat.zero_add] at H)
  iterate 6 refine H.ld 4 rfl rfl ?_
  iterate 2 refine H.ld 2 rfl rfl ?_
  refine (c_apply (Mat.flat m) p _).mono ?_
  rintro q nq w10 ⟨hq, he⟩
  have H := H.keep he
  refine H.nw fun w11 H => ?_
  simp only [List.nil_append, List.cons_append, List.set_cons_zero, List.set_cons_succ, Nat.zero_add] at H
  iterate 2 (refine H.st 5 rfl (by simp) fun _ H => ?_; simp only [List.nil_append, List.cons_append, List.set_cons_zero, List.set_cons_succ, Nat.zero_add] at H)
  rename_i w12
  refine ⟨fun _ w => w = w12, ?_, ?_⟩
  case refine_2 =>
    refine Br.eq (fun h0 => ?_) fun _ => rfl
    subst h0
    unfold IsLen at hn
    cases hap : applyP (Mat.flat m) p with
    | none =>
      rw [hap] at hn
      cases hn
    | some q' =>
      rw [hap] at hn hq
      cases hq
      obtain ⟨s, hs, hx⟩ := hn
      have hsn : n = s ∧ s ≤ 1073741824 := by
        split at hx
        · cases hx
        · cases hx; exact ⟨rfl, by omega⟩
      obtain ⟨rfl, hle⟩ := hsn
      obtain ⟨hs0, hs1, hs2⟩ := hs
      have hin := applyP_in hap
      have hsq := sq_bd hin.1 hin.2
      have hnn : 0 ≤ n * n ∧ n * n ≤ 1152921504606846976 := by
        have := mul_bd (a := n) (b := n) (by omega) (by omega)
        exact ⟨Int.mul_nonneg hs0 hs0, this.2⟩
      have hexp : (n + 1) * (n + 1) = n * n + 2 * n + 1 := by rw [Int.add_mul, Int.mul_add]; omega
      refine Br.f rfl (Br.f (decide_eq_false (by omega)) ?_)
      iterate 4 refine H.ld 5 rfl rfl ?_
      rw [i64_id (n := n * n) (by omega), i64_id (n := q.1 * q.1) (by omega), i64_id (n := q.2 * q.2) (by omega), i64_id (n := q.1 * q.1 + q.2 * q.2) (by omega)]
      refine Lt.of (Br.f (decide_eq_false (by omega)) ?_)
      iterate 4 refine H.ld 5 rfl rfl ?_
      rw [i64_id (n := n + 1) (by omega), i64_id (n := (n + 1) * (n + 1)) (by omega), i64_id (n := q.1 * q.1) (by omega), i64_id (n := q.2 * q.2) (by omega), i64_id (n := q.1 * q.1 + q.2 * q.2) (by omega)]
      exact Lt.of (Br.f (decide_eq_false (by omega)) rfl)
  rintro _ w13 rfl
  unfold S7J1
  cases hbx : boxK m r 3 with
  | none =>
    rw [hbx] at hb
    cases hb
    exact Br.t rfl ⟨rfl, H.ext⟩
  | some b' =>
  rw [hbx] at hb
  cases hb
  refine Br.f rfl ?_
  have hT := tight 3 _ hbx
  iterate 8 refine H.ld 1 rfl rfl ?_
  refine H.nw fun w14 H => ?_
  simp only [List.nil_append, List.cons_append, List.set_cons_zero, List.set_cons_succ, Nat.zero_add] at H
  refine ⟨fun n st w15 => ∃ i : Nat, st = (flW m r b i, flE m r b i, flS m r b i, flN m r b i, (i : Int)) ∧ i ≤ 4 ∧ n = 4 - i ∧ Hn w w15 _, 4, ⟨0, rfl, by omega, rfl, H⟩, ?_⟩
  rintro n st w15 ⟨i, rfl, hi, rfl, H⟩
  unfold S7L1
  dsimp only
  refine Br.dec (fun e => ⟨by omega, e, Nn.of ?_⟩) fun e => ?_
  · have hi4 : i < 4 := by have : (i : Int) < 4 := e; omega
    obtain ⟨c, hc, a1, a2, a3, a4⟩ := hT.1 i (by omega)
    have hld : (∀ K : Int → Prop, K (corner r i).1 → Ld w15 ((⟨w13.heap.size, 0, none⟩ : Addr).add ((i : Int).toNat * 2)) (Value.int .i64) K) ∧ (∀ K : Int → Prop, K (corner r i).2 → Ld w15 (((⟨w13.heap.size, 0, none⟩ : Addr).add ((i : Int).toNat * 2)).add 1) (Value.int .i64) K) := by
      have hc : i = 0 ∨ i = 1 ∨ i = 2 ∨ i = 3 := by omega
      rcases hc with rfl | rfl | rfl | rfl <;> exact ⟨fun K hK => H.ld 6 rfl rfl hK, fun K hK => H.ld 6 rfl rfl hK⟩
    refine hld.1 _ (hld.2 _ ?_)
    refine H.nw fun w16 H => ?_
    simp only [List.nil_append, List.cons_append, List.set_cons_zero, List.set_cons_succ, Nat.zero_add] at H
    iterate 2 (refine H.st 7 rfl (by simp) fun _ H => ?_; simp only [List.nil_append, List.cons_append, List.set_cons_zero, List.set_cons_succ, Nat.zero_add] at H)
    iterate 6 refine H.ld 0 rfl rfl ?_
    iterate 2 refine H.ld 7 rfl rfl ?_
    refine (c_apply m (corner r i) _).mono ?_
    rintro x ex w17 ⟨hx, he⟩
    have H := H.keep he
    rw [hc] at hx
    cases hx
    refine H.nw fun w18 H => ?_
    simp only [List.nil_append, List.cons_append, List.set_cons_zero, List.set_cons_succ, Nat.zero_add] at H
    iterate 2 (refine H.st 8 rfl (by simp) fun _ H => ?_; simp only [List.nil_append, List.cons_append, List.set_cons_zero, List.set_cons_succ, Nat.zero_add] at H)
    refine Br.f rfl ?_
    refine H.ld 8 rfl rfl (H.ld 3 rfl rfl (Br.f (decide_eq_false (by omega)) ?_))
    refine H.ld 8 rfl rfl (H.ld 3 rfl rfl (Br.f (decide_eq_false (by omega)) ?_))
    refine H.ld 8 rfl rfl (H.ld 3 rfl rfl (Br.f (decide_eq_false (by omega)) ?_))
    refine H.ld 8 rfl rfl (H.ld 3 rfl rfl (Br.f (decide_eq_false (by omega)) ?_))
    have H := H.drew
    have HL := H.left (L := [_, _, _, _, _, _, _]) (M := [_, _])
    have e1 : flW m r b (i + 1) = (flW m r b i || c.1 == b.1) := by simp only [flW, fl_succ, img_eq hc]
    have e2 : flE m r b (i + 1) = (flE m r b i || c.1 == b.2.2.1) := by simp only [flE, fl_succ, img_eq hc]
    have e3 : flS m r b (i + 1) = (flS m r b i || c.2 == b.2.1) := by simp only [flS, fl_succ, img_eq hc]
    have e4 : flN m r b (i + 1) = (flN m r b i || c.2 == b.2.2.2) := by simp only [flN, fl_succ, img_eq hc]
    have e5 : IntKind.i64.wrap ((i : Int) + 1) = ((i + 1 : Nat) : Int) := by rw [i64_id (by omega)]; rfl
    rw [e5]
    cases h1 : flW m r b i <;> cases h2 : flE m r b i <;> cases h3 : flS m r b i <;> cases h4 : flN m r b i <;> rw [h1] at e1 <;> rw [h2] at e2 <;> rw [h3] at e3 <;> rw [h4] at e4 <;> simp only [Br_true, Br_false] <;>
      (repeat (first | refine H.ld 8 rfl rfl ?_ | refine H.ld 3 rfl rfl ?_)) <;> exact ⟨4 - (i + 1), by omega, i + 1, by rw [e1, e2, e3, e4]; rfl, by omega, rfl, HL⟩
  · have hi4 : i = 4 := by have h : ¬ (i : Int) < 4 := e; omega
    subst hi4
    obtain ⟨t1, t2, t3, t4⟩ := tight_fl hT
    exact Br.t t1 (Br.t t2 (Br.t t3 ⟨t4, H.ext⟩))
end Mat
end Go.Proofs.Ytjlaijhmnlkpiaa
