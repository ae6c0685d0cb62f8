/- Package matrix: images, lengths and boxes, of the program. No condition. -/
import Derived.Test.YtcblpehnkogfdaaGreatDoorMatW
namespace Go.Proofs.YtcblpehnkogfdaaGreatDoor
namespace Mat
open Sh Fix
set_option linter.unusedVariables false
set_option linter.unusedSimpArgs false
set_option maxRecDepth 4000
set_option maxHeartbeats 1000000
attribute [local irreducible] Ld St Nw Nn Lt LdS

theorem bnone {α β : Type} (x : Option α) : (x.bind fun _ => (none : Option β)) = none := by cases x <;> rfl
theorem c_apply (m : Mx) (p : Int × Int) (w : World) : C122 m p w fun r e w1 => (r, e) = resP (applyP m p) ∧ Ext (fun _ => False) w w1 := by
  refine T122 _ _ _ _ ?_
  unfold S122
  refine (Hn.start w).nw fun w3 H => H.nw fun w4 H => H.nw fun w5 H => H.nw fun w6 H => ?_
  have caught : ∀ (q : Int × Int) (c : Int) (v : Value) (w7 : World), Hn w w7 [(w.heap.size, mrow m, 24), (w3.heap.size, [.int .i64 p.1, .int .i64 p.2], 68), (w4.heap.size, [.int .i64 q.1, .int .i64 q.2], 68), (w5.heap.size, [.int .i64 c], 43)] → v = gup 2 → applyP m p = none →
      S122P w4 w5 (fun r e w1 => (r, e) = resP (applyP m p) ∧ Ext (fun _ => False) w w1) v w7 := fun q c v w7 H hv hm => by
    subst hv
    unfold S122P
    refine T142_T191 _ _ 2 _ _ ?_
    unfold S142_T191
    refine (c_caught H 2 3 rfl (by simp)).mono (fun w8 H => ?_) fun _ _ h => h.elim
    refine H.ld 3 rfl rfl (Br.ne (fun _ => ?_) fun h => by cases h)
    repeat (first | refine Lt.of ?_ | refine Nn.of ?_ | refine H.ld 0 rfl rfl ?_ | refine H.ld 1 rfl rfl ?_ | refine H.ld 2 rfl rfl ?_ | refine H.ld 3 rfl rfl ?_ | refine H.ld 4 rfl rfl ?_ | refine H.ld 5 rfl rfl ?_ | (refine H.st 0 rfl (by simp) fun _ H => ?_; simp only [List.nil_append, List.cons_append, List.set_cons_zero, List.set_cons_succ, Nat.zero_add] at H) | (refine H.st 1 rfl (by simp) fun _ H => ?_; simp only [List.nil_append, List.cons_append, List.set_cons_zero, List.set_cons_succ, Nat.zero_add] at H) | (refine H.st 2 rfl (by simp) fun _ H => ?_; simp only [List.nil_append, List.cons_append, List.set_cons_zero, List.set_cons_succ, Nat.zero_add] at H) | (refine H.st 3 rfl (by simp) fun _ H => ?_; simp only [List.nil_append, List.cons_append, List.set_cons_zero, List.set_cons_succ, Nat.zero_add] at H) | (refine H.st 4 rfl (by simp) fun _ H => ?_; simp only [List.nil_append, List.cons_append, List.set_cons_zero, List.set_cons_succ, Nat.zero_add] at H) | (refine H.st 5 rfl (by simp) fun _ H => ?_; simp only [List.nil_append, List.cons_append, List.set_cons_zero, List.set_cons_succ, Nat.zero_add] at H))
    refine ⟨?_, H.ext⟩
    rw [hm]
    rfl
  have no : ∀ {w7 : World} {v : Value}, Ext (fun _ => False) w6 w7 → v = gup 2 → applyP m p = none → S122P w4 w5 (fun r e w1 => (r, e) = resP (applyP m p) ∧ Ext (fun _ => False) w w1) v w7 := fun he hv hm => caught (0, 0) 0 _ _ (H.keep he) hv hm
  repeat (first | refine H.ld 0 rfl rfl ?_ | refine H.ld 1 rfl rfl ?_ | refine H.ld 2 rfl rfl ?_ | refine H.ld 3 rfl rfl ?_ | refine H.ld 4 rfl rfl ?_ | refine H.ld 5 rfl rfl ?_)
  refine (c_check m _).mono ?_
  rintro r w7 ⟨rfl, he⟩
  have e7 := he
  have H := H.keep he
  refine (c_need _ _).mono (fun w8 h8 => ?_) fun v w8 h8 => ?_
  case refine_2 =>
    obtain ⟨hv, hne, rfl⟩ := h8
    have hka : ¬ okM m = true := fun h => hne (if_pos h)
    rw [if_neg hka] at hv
    exact no e7 hv (if_neg fun h => hka h.1)
  obtain ⟨hz, rfl⟩ := h8
  have hka : okM m = true := by
    refine Decidable.byContradiction fun h => ?_
    rw [if_neg h] at hz
    cases hz
  refine ⟨fun _ w9 => w9 = w8 ∧ inW p.1 = true ∧ inW p.2 = true, ?_, ?_⟩
  case refine_2 =>
    have two : ∀ {Q : World → Prop}, (¬ (inW p.1 = true ∧ inW p.2 = true)) → C134 2 w8 Q (S122P w4 w5 (fun r e w1 => (r, e) = resP (applyP m p) ∧ Ext (fun _ => False) w w1)) := fun hn => (c_need _ _).mono (fun w9 h => absurd h.1 (by omega)) fun v w9 h => by
      obtain ⟨hv, _, rfl⟩ := h
      exact no e7 hv (if_neg fun h => hn h.2)
    refine H.ld 1 rfl rfl ((c_out _ _).mono ?_)
    rintro b _ ⟨rfl, rfl⟩
    refine Br_of (fun h => two fun h2 => by rw [h2.1] at h; cases h) fun h1 => H.ld 1 rfl rfl ((c_out _ _).mono ?_)
    rintro b _ ⟨rfl, rfl⟩
    exact Br_of (fun h => two fun h2 => by rw [h2.2] at h; cases h) fun h2 => ⟨rfl, by simpa using h1, by simpa using h2⟩
  rintro _ w9 ⟨rfl, hi1, hi2⟩
  unfold S122J1
  have HD := H.drew
  have eD := e7.drew
  have happ : applyP m p = (dotP [p.1, m.1, p.2, m.2.2.1, m.2.2.2.2.1, 10000]).bind fun x => (dotP [p.1, m.2.1, p.2, m.2.2.2.1, m.2.2.2.2.2, 10000]).bind fun y => some (x, y) := if_pos ⟨hka, hi1, hi2⟩
  have no' : ∀ {w11 w12 : World} {v : Value}, Ext (fun _ => False) w9.drew w11 → Ext (fun _ => False) w11 w12 → v = gup 2 → applyP m p = none → S122P w4 w5 (fun r e w1 => (r, e) = resP (applyP m p) ∧ Ext (fun _ => False) w w1) v w12 := fun h1 h2 hv hm => no ((eD.tr h1).tr h2) hv hm
  have hS0 : ∀ w11, Ext (fun _ => False) w9.drew w11 → Blk w11 w.heap.size (mrow m).toArray 24 := fun w11 h => (HD.keep h).get 0 rfl
  have hS1 : ∀ w11, Ext (fun _ => False) w9.drew w11 → Blk w11 w3.heap.size #[.int .i64 p.1, .int .i64 p.2] 68 := fun w11 h => (HD.keep h).get 1 rfl
  have eN : ∀ (w11 : World) (o : Obj), Ext (fun _ => False) w11 (w11.alloc o) := fun w11 o => (Ext.refl _ _).alloc o
  have fin : ∀ (x y : Int) (w12 : World), Ext (fun _ => False) w9.drew w12 → dotP [p.1, m.1, p.2, m.2.2.1, m.2.2.2.2.1, 10000] = some x → dotP [p.1, m.2.1, p.2, m.2.2.2.1, m.2.2.2.2.2, 10000] = some y →
      St w12 (⟨w4.heap.size, 0, none⟩ : Addr) (.int .i64 x) fun vw49 =>
          St vw49 ((⟨w4.heap.size, 0, none⟩ : Addr).add 1) (.int .i64 y) fun vw50 =>
          St vw50 (⟨w5.heap.size, 0, none⟩ : Addr) (.int .i64 0) fun vw51 =>
          CD142 (⟨w5.heap.size, 0, none⟩ : Addr) (⟨w4.heap.size, 0, none⟩ : Addr) none vw51 fun vw52 =>
            Ld vw52 (⟨w4.heap.size, 0, none⟩ : Addr) (Value.int .i64) fun (x53 : Int) =>
            Ld vw52 ((⟨w4.heap.size, 0, none⟩ : Addr).add 1) (Value.int .i64) fun (x54 : Int) =>
            Ld vw52 (⟨w5.heap.size, 0, none⟩ : Addr) (Value.int .i64) fun (x55 : Int) =>
            ((x53, x54), x55) = resP (applyP m p) ∧ Ext (fun _ => False) w vw52 := fun x y w12 he hx hy => by
    have H := HD.keep he
    repeat (first | refine Lt.of ?_ | refine Nn.of ?_ | refine H.ld 0 rfl rfl ?_ | refine H.ld 1 rfl rfl ?_ | refine H.ld 2 rfl rfl ?_ | refine H.ld 3 rfl rfl ?_ | refine H.ld 4 rfl rfl ?_ | refine H.ld 5 rfl rfl ?_ | (refine H.st 0 rfl (by simp) fun _ H => ?_; simp only [List.nil_append, List.cons_append, List.set_cons_zero, List.set_cons_succ, Nat.zero_add] at H) | (refine H.st 1 rfl (by simp) fun _ H => ?_; simp only [List.nil_append, List.cons_append, List.set_cons_zero, List.set_cons_succ, Nat.zero_add] at H) | (refine H.st 2 rfl (by simp) fun _ H => ?_; simp only [List.nil_append, List.cons_append, List.set_cons_zero, List.set_cons_succ, Nat.zero_add] at H) | (refine H.st 3 rfl (by simp) fun _ H => ?_; simp only [List.nil_append, List.cons_append, List.set_cons_zero, List.set_cons_succ, Nat.zero_add] at H) | (refine H.st 4 rfl (by simp) fun _ H => ?_; simp only [List.nil_append, List.cons_append, List.set_cons_zero, List.set_cons_succ, Nat.zero_add] at H) | (refine H.st 5 rfl (by simp) fun _ H => ?_; simp only [List.nil_append, List.cons_append, List.set_cons_zero, List.set_cons_succ, Nat.zero_add] at H))
    refine T142_nil _ _ _ _ ?_
    unfold S142_nil
    refine (c_caught_nil _ _).mono (fun w1 h => ?_) fun _ _ h => h.elim
    subst h
    refine H.ld 3 rfl rfl (Br.ne (fun h => absurd rfl h) fun _ => ?_)
    repeat (first | refine H.ld 0 rfl rfl ?_ | refine H.ld 1 rfl rfl ?_ | refine H.ld 2 rfl rfl ?_ | refine H.ld 3 rfl rfl ?_ | refine H.ld 4 rfl rfl ?_ | refine H.ld 5 rfl rfl ?_)
    refine ⟨?_, H.ext⟩
    rw [happ, hx, hy]
    rfl
  refine ⟨fun w11 => Ext (fun _ => False) w9.drew w11, Ext.refl _ _, ?_⟩
  repeat (first | refine LdS.of hS0 rfl ?_ | refine LdS.of hS1 rfl ?_)
  refine ⟨Nw.of ⟨eN _ _, ?_, Nw.of ?_⟩, Nw.of ⟨eN _ _, Nw.of ⟨(eN _ _).tr (eN _ _), ?_⟩⟩⟩
  · refine (c_dot (row6 (Blk.new _ _ _)) (.inr rfl)).mono (fun r w12 h12 => ?_) fun v w12 h12 => no' (eN _ _) h12.2.2 h12.1 (by rw [happ, h12.2.1]; rfl)
    refine ⟨(eN _ _).tr h12.2, Nw.of ⟨((eN _ _).tr h12.2).tr (eN _ _), ?_⟩⟩
    refine (c_dot (row6 (Blk.new _ _ _)) (.inr rfl)).mono (fun r2 w13 h13 => ?_) fun v w13 h13 => no' (((eN _ _).tr h12.2).tr (eN _ _)) h13.2.2 h13.1 (by rw [happ, h13.2.1]; simp [bnone])
    exact fin _ _ _ ((((eN _ _).tr h12.2).tr (eN _ _)).tr h13.2) h12.1 h13.1
  · refine ⟨(eN _ _).tr (eN _ _), (c_dot (row6 ((eN _ _).blk (Blk.new _ _ _) id)) (.inr rfl)).mono (fun r w12 h12 => ?_) fun v w12 h12 => no' ((eN _ _).tr (eN _ _)) h12.2.2 h12.1 (by rw [happ, h12.2.1]; rfl)⟩
    refine ⟨((eN _ _).tr (eN _ _)).tr h12.2, (c_dot (row6 (h12.2.blk (Blk.new _ _ _) id)) (.inr rfl)).mono (fun r2 w13 h13 => ?_) fun v w13 h13 => no' (((eN _ _).tr (eN _ _)).tr h12.2) h13.2.2 h13.1 (by rw [happ, h13.2.1]; simp [bnone])⟩
    exact fin _ _ _ ((((eN _ _).tr (eN _ _)).tr h12.2).tr h13.2) h12.1 h13.1
  · refine (c_dot (row6 (Blk.new _ _ _)) (.inr rfl)).mono (fun r w12 h12 => ?_) fun v w12 h12 => no' ((eN _ _).tr (eN _ _)) h12.2.2 h12.1 (by rw [happ, h12.2.1]; rfl)
    refine ⟨((eN _ _).tr (eN _ _)).tr h12.2, (c_dot (row6 (h12.2.blk ((eN _ _).blk (Blk.new _ _ _) id) id)) (.inr rfl)).mono (fun r2 w13 h13 => ?_) fun v w13 h13 => no' (((eN _ _).tr (eN _ _)).tr h12.2) h13.2.2 h13.1 (by rw [happ, h13.2.1]; simp [bnone])⟩
    exact fin _ _ _ ((((eN _ _).tr (eN _ _)).tr h12.2).tr h13.2) h12.1 h13.1
/-- The integer square root. -/
def isRoot (n s : Int) : Prop := 0 ≤ s ∧ s * s ≤ n ∧ n < (s + 1) * (s + 1)
theorem isRoot_eq {n s t : Int} (hs : isRoot n s) (ht : isRoot n t) : s = t := by
  obtain ⟨h1, h2, h3⟩ := hs
  obtain ⟨g1, g2, g3⟩ := ht
  rcases Int.lt_trichotomy s t with h | h | h
  · have := Int.mul_le_mul (show s + 1 ≤ t by omega) (show s + 1 ≤ t by omega) (by omega) (by omega)
    omega
  · exact h
  · have := Int.mul_le_mul (show t + 1 ≤ s by omega) (show t + 1 ≤ s by omega) (by omega) (by omega)
    omega
theorem le_div {t n : Int} (ht : 0 < t) (hn : 0 ≤ n) : (t ≤ n / t) ↔ t * t ≤ n := Int.le_ediv_iff_mul_le ht
theorem c_root {n : Int} (hn : 0 ≤ n ∧ n < 4611686018427387904) (w : World) : C143 n w fun r w1 => isRoot n r ∧ r < 2147483648 ∧ w1 = w := by
  refine T143 _ _ _ ?_
  unfold S143
  refine ⟨fun k st w1 => w1 = w ∧ k ≤ 32 ∧ 0 ≤ st.1 ∧ st.1 * st.1 ≤ n ∧ ((k = 0 ∧ st.2 = 0 ∧ n < (st.1 + 1) * (st.1 + 1) ∧ st.1 < 2147483648) ∨ (∃ j : Nat, k = j + 1 ∧ st.2 = 2 ^ j ∧ n < (st.1 + 2 * 2 ^ j) * (st.1 + 2 * 2 ^ j) ∧ st.1 + 2 * 2 ^ j ≤ 4294967296)), 32, ⟨rfl, by omega, by simp, by simp; omega, .inr ⟨31, rfl, by decide, by simp; omega, by simp⟩⟩, ?_⟩
  rintro k ⟨r, b⟩ w1 ⟨rfl, hk, hr0, hrr, h⟩
  unfold S143L1
  dsimp only at hr0 hrr h ⊢
  rcases h with ⟨rfl, rfl, hlt, hb⟩ | ⟨j, rfl, rfl, hlt, hb⟩
  · refine Br.dec (fun h => by omega) fun _ => ⟨⟨hr0, hrr, hlt⟩, hb, rfl⟩
  · have hp : (0 : Int) < 2 ^ j := Int.pow_pos (by omega)
    refine Br.dec (fun _ => ?_) fun h => by omega
    have hrb : r ≤ 2147483647 := by
      refine Decidable.byContradiction fun h => ?_
      have := Int.mul_le_mul (show (2147483648 : Int) ≤ r by omega) (show (2147483648 : Int) ≤ r by omega) (by omega) (by omega)
      omega
    have hpj : (2 : Int) ^ j ≤ 2147483648 := by
      have : (2 : Int) ^ j ≤ 2 ^ 31 := by exact_mod_cast Nat.pow_le_pow_right (by omega) (show j ≤ 31 by omega)
      simpa using this
    rw [i64_id (n := r + 2 ^ j) (by omega)]
    have hq0 : 0 ≤ n / (r + 2 ^ j) := Int.ediv_nonneg (by omega) (by omega)
    have hq1 : n / (r + 2 ^ j) ≤ n := Int.ediv_le_self _ (by omega)
    rw [tdiv_id (by omega), i64_id (n := n / (r + 2 ^ j)) (by omega)]
    have half : j = 0 ∧ Int.fdiv (2 ^ j) (2 ^ 1) = 0 ∨ ∃ i, j = i + 1 ∧ Int.fdiv (2 ^ j) (2 ^ 1) = 2 ^ i ∧ (2 : Int) ^ j = 2 * 2 ^ i := by
      cases j with
      | zero => exact .inl ⟨rfl, by decide⟩
      | succ i =>
        refine .inr ⟨i, rfl, ?_, by rw [Int.pow_succ]; omega⟩
        rw [Int.fdiv_eq_ediv_of_nonneg _ (by decide), Int.pow_succ]
        omega
    refine ⟨by omega, Lt.of (Br.dec (fun h => ?_) fun h => ?_)⟩
    · have h2 := (le_div (show 0 < r + 2 ^ j by omega) hn.1).1 h
      refine ⟨j, by omega, rfl, by omega, by omega, h2, ?_⟩
      rcases half with ⟨rfl, h3⟩ | ⟨i, rfl, h3, h4⟩
      · refine .inl ⟨rfl, h3, ?_, ?_⟩
        · simp only [Int.pow_zero] at hlt ⊢
          rw [show r + 1 + 1 = r + 2 * 1 by omega]; exact hlt
        · refine Decidable.byContradiction fun h => ?_
          have := Int.mul_le_mul (show (2147483648 : Int) ≤ r + 2 ^ 0 by omega) (show (2147483648 : Int) ≤ r + 2 ^ 0 by omega) (by omega) (by omega)
          omega
      · refine .inr ⟨i, rfl, h3, ?_, ?_⟩
        · rw [← h4, show r + 2 ^ (i + 1) + 2 ^ (i + 1) = r + 2 * 2 ^ (i + 1) by omega]; exact hlt
        · omega
    · have h2 : ¬ (r + 2 ^ j) * (r + 2 ^ j) ≤ n := fun h2 => h ((le_div (by omega) hn.1).2 h2)
      refine ⟨j, by omega, rfl, by omega, hr0, hrr, ?_⟩
      rcases half with ⟨rfl, h3⟩ | ⟨i, rfl, h3, h4⟩
      · exact .inl ⟨rfl, h3, by simpa using Int.not_le.1 h2, by omega⟩
      · exact .inr ⟨i, rfl, h3, by rw [← h4]; exact Int.not_le.1 h2, by omega⟩
def flat (m : Mx) : Mx := (m.1, m.2.1, m.2.2.1, m.2.2.2.1, 0, 0)
/-- The length of a vector's image: what Length answers. -/
def IsLen (m : Mx) (p : Int × Int) (x : Int × Int) : Prop := match applyP (flat m) p with
  | none => x = (0, 2)
  | some q => ∃ s, isRoot (q.1 * q.1 + q.2 * q.2) s ∧ x = if 1073741824 < s then (0, 2) else (s, 0)
theorem isLen_eq {m : Mx} {p : Int × Int} {x y : Int × Int} (hx : IsLen m p x) (hy : IsLen m p y) : x = y := by
  unfold IsLen at hx hy
  split at hx
  · rename_i h; rw [h] at hy; rw [hx, hy]
  · rename_i q h
    rw [h] at hy
    obtain ⟨s, h1, h2⟩ := hx
    obtain ⟨t, h3, h4⟩ := hy
    rw [h2, h4, isRoot_eq h1 h3]
theorem applyP_in {m : Mx} {p q : Int × Int} (h : applyP m p = some q) : inW q.1 = true ∧ inW q.2 = true := by
  unfold applyP at h
  split at h
  · obtain ⟨x, h1, h⟩ := Option.bind_eq_some_iff.1 h
    obtain ⟨y, h2, h⟩ := Option.bind_eq_some_iff.1 h
    cases h
    exact ⟨dotP_in h1, dotP_in h2⟩
  · cases h
theorem sq_bd {q : Int × Int} (h1 : inW q.1 = true) (h2 : inW q.2 = true) : 0 ≤ q.1 * q.1 ∧ q.1 * q.1 ≤ 1152921504606846976 ∧ 0 ≤ q.2 * q.2 ∧ q.2 * q.2 ≤ 1152921504606846976 := by
  have h1 := inW_spec.1 h1
  have h2 := inW_spec.1 h2
  exact ⟨by rw [← Int.natAbs_mul_self]; omega, (mul_bd h1 h1).2, by rw [← Int.natAbs_mul_self]; omega, (mul_bd h2 h2).2⟩
theorem c_length (m : Mx) (p : Int × Int) (w : World) : C123 m p w fun r e w1 => IsLen m p (r, e) ∧ Ext (fun _ => False) w w1 := by
  refine T123 _ _ _ _ ?_
  unfold S123
  refine (Hn.start w).nw fun w3 H => H.nw fun w4 H => ?_
  repeat (first | refine Lt.of ?_ | refine Nn.of ?_ | refine H.ld 0 rfl rfl ?_ | refine H.ld 1 rfl rfl ?_ | refine H.ld 2 rfl rfl ?_ | refine H.ld 3 rfl rfl ?_ | refine H.ld 4 rfl rfl ?_ | refine H.ld 5 rfl rfl ?_ | (refine H.st 0 rfl (by simp) fun _ H => ?_; simp only [List.nil_append, List.cons_append, List.set_cons_zero, List.set_cons_succ, Nat.zero_add] at H) | (refine H.st 1 rfl (by simp) fun _ H => ?_; simp only [List.nil_append, List.cons_append, List.set_cons_zero, List.set_cons_succ, Nat.zero_add] at H) | (refine H.st 2 rfl (by simp) fun _ H => ?_; simp only [List.nil_append, List.cons_append, List.set_cons_zero, List.set_cons_succ, Nat.zero_add] at H) | (refine H.st 3 rfl (by simp) fun _ H => ?_; simp only [List.nil_append, List.cons_append, List.set_cons_zero, List.set_cons_succ, Nat.zero_add] at H) | (refine H.st 4 rfl (by simp) fun _ H => ?_; simp only [List.nil_append, List.cons_append, List.set_cons_zero, List.set_cons_succ, Nat.zero_add] at H) | (refine H.st 5 rfl (by simp) fun _ H => ?_; simp only [List.nil_append, List.cons_append, List.set_cons_zero, List.set_cons_succ, Nat.zero_add] at H))
  refine (c_apply (flat m) p _).mono ?_
  rintro q e w5 ⟨hq, he⟩
  have H := H.keep he
  refine H.nw fun w6 H => ?_
  repeat (first | refine Lt.of ?_ | refine Nn.of ?_ | refine H.ld 0 rfl rfl ?_ | refine H.ld 1 rfl rfl ?_ | refine H.ld 2 rfl rfl ?_ | refine H.ld 3 rfl rfl ?_ | refine H.ld 4 rfl rfl ?_ | refine H.ld 5 rfl rfl ?_ | (refine H.st 0 rfl (by simp) fun _ H => ?_; simp only [List.nil_append, List.cons_append, List.set_cons_zero, List.set_cons_succ, Nat.zero_add] at H) | (refine H.st 1 rfl (by simp) fun _ H => ?_; simp only [List.nil_append, List.cons_append, List.set_cons_zero, List.set_cons_succ, Nat.zero_add] at H) | (refine H.st 2 rfl (by simp) fun _ H => ?_; simp only [List.nil_append, List.cons_append, List.set_cons_zero, List.set_cons_succ, Nat.zero_add] at H) | (refine H.st 3 rfl (by simp) fun _ H => ?_; simp only [List.nil_append, List.cons_append, List.set_cons_zero, List.set_cons_succ, Nat.zero_add] at H) | (refine H.st 4 rfl (by simp) fun _ H => ?_; simp only [List.nil_append, List.cons_append, List.set_cons_zero, List.set_cons_succ, Nat.zero_add] at H) | (refine H.st 5 rfl (by simp) fun _ H => ?_; simp only [List.nil_append, List.cons_append, List.set_cons_zero, List.set_cons_succ, Nat.zero_add] at H))
  unfold IsLen
  cases ha : applyP (flat m) p with
  | none =>
    rw [ha] at hq
    have hq2 := Prod.mk.inj hq
    obtain ⟨rfl, rfl⟩ := hq2
    exact ⟨rfl, H.ext⟩
  | some q' =>
    rw [ha] at hq
    have hq2 := Prod.mk.inj hq
    obtain ⟨rfl, rfl⟩ := hq2
    obtain ⟨i1, i2⟩ := applyP_in ha
    have hb := sq_bd i1 i2
    refine Br.ne (fun h => absurd rfl h) fun _ => ?_
    repeat (first | refine Lt.of ?_ | refine Nn.of ?_ | refine H.ld 0 rfl rfl ?_ | refine H.ld 1 rfl rfl ?_ | refine H.ld 2 rfl rfl ?_ | refine H.ld 3 rfl rfl ?_ | refine H.ld 4 rfl rfl ?_ | refine H.ld 5 rfl rfl ?_ | (refine H.st 0 rfl (by simp) fun _ H => ?_; simp only [List.nil_append, List.cons_append, List.set_cons_zero, List.set_cons_succ, Nat.zero_add] at H) | (refine H.st 1 rfl (by simp) fun _ H => ?_; simp only [List.nil_append, List.cons_append, List.set_cons_zero, List.set_cons_succ, Nat.zero_add] at H) | (refine H.st 2 rfl (by simp) fun _ H => ?_; simp only [List.nil_append, List.cons_append, List.set_cons_zero, List.set_cons_succ, Nat.zero_add] at H) | (refine H.st 3 rfl (by simp) fun _ H => ?_; simp only [List.nil_append, List.cons_append, List.set_cons_zero, List.set_cons_succ, Nat.zero_add] at H) | (refine H.st 4 rfl (by simp) fun _ H => ?_; simp only [List.nil_append, List.cons_append, List.set_cons_zero, List.set_cons_succ, Nat.zero_add] at H) | (refine H.st 5 rfl (by simp) fun _ H => ?_; simp only [List.nil_append, List.cons_append, List.set_cons_zero, List.set_cons_succ, Nat.zero_add] at H))
    rw [i64_id (n := q.1 * q.1) (by omega), i64_id (n := q.2 * q.2) (by omega), i64_id (n := q.1 * q.1 + q.2 * q.2) (by omega)]
    refine (c_root (by omega) _).mono ?_
    rintro r _ ⟨hr, hlt, rfl⟩
    exact Br.dec (fun h => ⟨⟨r, hr, by rw [if_pos h]⟩, H.ext⟩) fun h => ⟨⟨r, hr, by rw [if_neg h]⟩, H.ext⟩
def one : Mx := (10000, 0, 0, 10000, 0, 0)
def moveM (x y : Int) : Mx := (10000, 0, 0, 10000, x, y)
def scaleM (x y : Int) : Mx := (x, 0, 0, y, 0, 0)
theorem c_one (w : World) : C24 w fun r w1 => r = one ∧ Ext (fun _ => False) w w1 := by
  refine T24 _ _ ?_
  unfold S24
  refine (Hn.start w).nw fun w3 H => ?_
  repeat (first | refine Lt.of ?_ | refine Nn.of ?_ | refine H.ld 0 rfl rfl ?_ | refine H.ld 1 rfl rfl ?_ | refine H.ld 2 rfl rfl ?_ | refine H.ld 3 rfl rfl ?_ | refine H.ld 4 rfl rfl ?_ | refine H.ld 5 rfl rfl ?_ | (refine H.st 0 rfl (by simp) fun _ H => ?_; simp only [List.nil_append, List.cons_append, List.set_cons_zero, List.set_cons_succ, Nat.zero_add] at H) | (refine H.st 1 rfl (by simp) fun _ H => ?_; simp only [List.nil_append, List.cons_append, List.set_cons_zero, List.set_cons_succ, Nat.zero_add] at H) | (refine H.st 2 rfl (by simp) fun _ H => ?_; simp only [List.nil_append, List.cons_append, List.set_cons_zero, List.set_cons_succ, Nat.zero_add] at H) | (refine H.st 3 rfl (by simp) fun _ H => ?_; simp only [List.nil_append, List.cons_append, List.set_cons_zero, List.set_cons_succ, Nat.zero_add] at H) | (refine H.st 4 rfl (by simp) fun _ H => ?_; simp only [List.nil_append, List.cons_append, List.set_cons_zero, List.set_cons_succ, Nat.zero_add] at H) | (refine H.st 5 rfl (by simp) fun _ H => ?_; simp only [List.nil_append, List.cons_append, List.set_cons_zero, List.set_cons_succ, Nat.zero_add] at H))
  exact ⟨rfl, H.ext⟩
theorem c_move (x y : Int) (w : World) : C116 x y w fun r w1 => r = moveM x y ∧ Ext (fun _ => False) w w1 := by
  refine T116 _ _ _ _ ?_
  unfold S116
  refine (Hn.start w).nw fun w3 H => ?_
  refine (c_one _).mono ?_
  rintro r w4 ⟨rfl, he⟩
  have H := H.keep he
  refine H.nw fun w5 H => ?_
  repeat (first | refine Lt.of ?_ | refine Nn.of ?_ | refine H.ld 0 rfl rfl ?_ | refine H.ld 1 rfl rfl ?_ | refine H.ld 2 rfl rfl ?_ | refine H.ld 3 rfl rfl ?_ | refine H.ld 4 rfl rfl ?_ | refine H.ld 5 rfl rfl ?_ | (refine H.st 0 rfl (by simp) fun _ H => ?_; simp only [List.nil_append, List.cons_append, List.set_cons_zero, List.set_cons_succ, Nat.zero_add] at H) | (refine H.st 1 rfl (by simp) fun _ H => ?_; simp only [List.nil_append, List.cons_append, List.set_cons_zero, List.set_cons_succ, Nat.zero_add] at H) | (refine H.st 2 rfl (by simp) fun _ H => ?_; simp only [List.nil_append, List.cons_append, List.set_cons_zero, List.set_cons_succ, Nat.zero_add] at H) | (refine H.st 3 rfl (by simp) fun _ H => ?_; simp only [List.nil_append, List.cons_append, List.set_cons_zero, List.set_cons_succ, Nat.zero_add] at H) | (refine H.st 4 rfl (by simp) fun _ H => ?_; simp only [List.nil_append, List.cons_append, List.set_cons_zero, List.set_cons_succ, Nat.zero_add] at H) | (refine H.st 5 rfl (by simp) fun _ H => ?_; simp only [List.nil_append, List.cons_append, List.set_cons_zero, List.set_cons_succ, Nat.zero_add] at H))
  exact ⟨rfl, H.ext⟩
/-- The corners of a rectangle. -/
def corner (r : Int × Int × Int × Int) (i : Nat) : Int × Int := if i = 0 then (r.1, r.2.1) else if i = 1 then (r.2.2.1, r.2.1) else if i = 2 then (r.1, r.2.2.2) else (r.2.2.1, r.2.2.2)
/-- The box of the first k + 1 images. -/
def boxK (m : Mx) (r : Int × Int × Int × Int) : Nat → Option (Int × Int × Int × Int)
  | 0 => (applyP m (corner r 0)).map fun q => (q.1, q.2, q.1, q.2)
  | k + 1 => (boxK m r k).bind fun b => (applyP m (corner r (k + 1))).map fun q =>
      ((if q.1 < b.1 then q.1 else b.1), (if q.2 < b.2.1 then q.2 else b.2.1), (if q.1 > b.2.2.1 then q.1 else b.2.2.1), (if q.2 > b.2.2.2 then q.2 else b.2.2.2))
def resB : Option (Int × Int × Int × Int) → (Int × Int × Int × Int) × Int
  | some b => (b, 0)
  | none => ((0, 0, 0, 0), 2)
def rrow (b : Int × Int × Int × Int) : List Value := [.int .i64 b.1, .int .i64 b.2.1, .int .i64 b.2.2.1, .int .i64 b.2.2.2]
@[simp] theorem rrow_len (b : Int × Int × Int × Int) : (rrow b).length = 4 := rfl
@[simp] theorem mrow_len (m : Mx) : (mrow m).length = 6 := rfl
theorem boxK_none {m : Mx} {r : Int × Int × Int × Int} {i : Nat} (h : applyP m (corner r i) = none) : ∀ k, i ≤ k → boxK m r k = none
  | 0, hk => by
    have : i = 0 := by omega
    subst this
    rw [boxK, h]; rfl
  | k + 1, hk => by
    rw [boxK]
    by_cases hi : i = k + 1
    · subst hi
      rw [h]
      cases boxK m r k <;> rfl
    · rw [boxK_none h k (by omega)]
      rfl
end Mat
end Go.Proofs.YtcblpehnkogfdaaGreatDoor
