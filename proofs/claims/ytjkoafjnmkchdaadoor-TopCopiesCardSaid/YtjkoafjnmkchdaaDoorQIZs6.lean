/- Package-merge: lengths, costs and the least cost, said plainly; no program in sight. No condition. -/
import Derived.Test.YtjkoafjnmkchdaaDoorQIZs5
import Derived.Test.YtjkoafjnmkchdaaDoorQIZs3
import Derived.Test.YtjkoafjnmkchdaaDoorQIZs4
import Derived.Test.YtjkoafjnmkchdaaDoorQIZs2
namespace Go.Proofs.YtjkoafjnmkchdaaDoor
namespace Pm
open Inf
set_option linter.unusedVariables false
set_option linter.unusedSimpArgs false
/-- The leaves, in the order of their signs. -/
def lv (c : List Int) : Nat → List Tr
  | 0 => []
  | i + 1 => if 0 < c.getD i 0 then lv c i ++ [.leaf i (c.getD i 0)] else lv c i
theorem lv_mem {c : List Int} : ∀ {i : Nat} {t : Tr}, t ∈ lv c i ↔ ∃ s, s < i ∧ t = .leaf s (c.getD s 0) ∧ 0 < c.getD s 0
  | 0, t => ⟨fun h => by simp [lv] at h, fun ⟨s, h, _⟩ => by omega⟩
  | i + 1, t => by
    have ih := lv_mem (c := c) (i := i) (t := t)
    unfold lv
    split
    · rename_i hp
      rw [List.mem_append, ih, List.mem_singleton]
      constructor
      · rintro (⟨s, h1, h2⟩ | rfl)
        · exact ⟨s, by omega, h2⟩
        · exact ⟨i, by omega, rfl, hp⟩
      · rintro ⟨s, h1, h2, h3⟩
        by_cases e : s = i
        · subst e; exact .inr h2
        · exact .inl ⟨s, by omega, h2, h3⟩
    · rename_i hp
      rw [ih]
      constructor
      · rintro ⟨s, h1, h2⟩
        exact ⟨s, by omega, h2⟩
      · rintro ⟨s, h1, h2, h3⟩
        by_cases e : s = i
        · subst e; omega
        · exact ⟨s, by omega, h2, h3⟩
theorem lv_one (c : List Int) : ∀ i, ((lv c i).map Tr.sgn).Nodup
  | 0 => List.nodup_nil
  | i + 1 => by
    unfold lv
    split
    · rw [List.map_append]
      refine List.nodup_append.2 ⟨lv_one c i, by simp, fun a ha b hb e => ?_⟩
      obtain ⟨t, ht, rfl⟩ := List.mem_map.1 ha
      obtain ⟨s, hs, rfl, _⟩ := lv_mem.1 ht
      simp only [List.map_cons, List.map_nil, List.mem_singleton, Tr.sgn] at hb e
      omega
    · exact lv_one c i
theorem lv_len (c : List Int) : ∀ i, (lv c i).length ≤ i
  | 0 => Nat.le_refl _
  | i + 1 => by
    have := lv_len c i
    unfold lv
    split
    · rw [List.length_append]; simp; omega
    · omega
/-- Sorted leaves of a row of counts. -/
structure Sd (c : List Int) (S : List Tr) : Prop where
  perm : S.Perm (lv c c.length)
  up : Up S
theorem Sd.lv {c : List Int} {S : List Tr} (h : Sd c S) : Lv S :=
  ⟨fun t ht => by
    obtain ⟨s, _, e, h0⟩ := lv_mem.1 (h.perm.mem_iff.1 ht)
    exact ⟨s, _, e, h0⟩, h.up, (h.perm.map Tr.sgn).nodup_iff.2 (lv_one c _)⟩
theorem Sd.sign {c : List Int} {S : List Tr} (h : Sd c S) {r : Nat} (hr : r < S.length) : sg S r < c.length ∧ 0 < c.getD (sg S r) 0 ∧ S[r] = .leaf (sg S r) (c.getD (sg S r) 0) := by
  obtain ⟨s, h1, h2, h3⟩ := lv_mem.1 (h.perm.mem_iff.1 (List.getElem_mem hr))
  have e : sg S r = s := by
    unfold sg
    rw [List.getD_eq_getElem?_getD, List.getElem?_eq_getElem hr, Option.getD_some, h2]
    rfl
  rw [e]
  exact ⟨h1, h3, h2⟩
theorem Sd.rank {c : List Int} {S : List Tr} (h : Sd c S) {i : Nat} (hi : i < c.length) (h0 : 0 < c.getD i 0) : ∃ r, r < S.length ∧ sg S r = i := by
  have hm : Tr.leaf i (c.getD i 0) ∈ S := h.perm.mem_iff.2 (lv_mem.2 ⟨i, hi, rfl, h0⟩)
  obtain ⟨r, hr, e⟩ := List.mem_iff_getElem.1 hm
  refine ⟨r, hr, ?_⟩
  unfold sg
  rw [List.getD_eq_getElem?_getD, List.getElem?_eq_getElem hr, Option.getD_some, e]
  rfl
/-! ### Sums, in two orders -/
def gsum (g : Nat → Nat) : List Tr → Nat
  | [] => 0
  | t :: r => g t.sgn + gsum g r
theorem gsum_app (g : Nat → Nat) : ∀ l m, gsum g (l ++ m) = gsum g l + gsum g m
  | [], m => by simp [gsum]
  | t :: r, m => by
    have := gsum_app g r m
    simp only [List.cons_append, gsum]
    omega
theorem gsum_perm {g : Nat → Nat} {l m : List Tr} (h : l.Perm m) : gsum g l = gsum g m := by
  induction h with
  | nil => rfl
  | cons x _ ih => simp only [gsum]; omega
  | swap x y l => simp only [gsum]; omega
  | trans _ _ h1 h2 => omega
theorem gsum_sumR (g : Nat → Nat) (S : List Tr) : ∀ n, n ≤ S.length → gsum g (S.take n) = sumR (fun r => g (sg S r)) n
  | 0, _ => by simp [gsum, sumR]
  | n + 1, h => by
    have ih := gsum_sumR g S n (by omega)
    have ht : S.take (n + 1) = S.take n ++ [S[n]] := by rw [List.take_add_one, List.getElem?_eq_getElem (by omega)]; rfl
    have e : sg S n = (S[n]).sgn := by
      unfold sg
      rw [List.getD_eq_getElem?_getD, List.getElem?_eq_getElem (by omega), Option.getD_some]
    rw [ht, gsum_app, ih]
    simp only [sumR, gsum, e]
    omega
/-- The lengths that trees give. -/
def lensOf (T : List Tr) (n : Nat) : List Int := (List.range n).map fun i => (cs i T : Int)
theorem lensOf_len (T : List Tr) (n : Nat) : (lensOf T n).length = n := by unfold lensOf; simp
theorem lensOf_get {T : List Tr} {n i : Nat} (h : i < n) : (lensOf T n).getD i 0 = (cs i T : Int) := by
  unfold lensOf
  rw [List.getD_eq_getElem?_getD, List.getElem?_map, List.getElem?_range h]
  rfl
theorem kr_lens {c : List Int} {T : List Tr} {n : Nat} (hz : ∀ i, i < n → (0 < cs i T ↔ 0 < c.getD i 0)) : ∀ i, i ≤ n → kr (lensOf T n) i = (gsum (fun s => 2 ^ (15 - cs s T)) (lv c i) : Nat)
  | 0, _ => rfl
  | i + 1, h => by
    have ih := kr_lens hz i (by omega)
    have hi := hz i (by omega)
    show (if 0 < (lensOf T n).getD i 0 then kr (lensOf T n) i + 2 ^ (15 - ((lensOf T n).getD i 0).toNat) else kr (lensOf T n) i) = _
    rw [lensOf_get (by omega)]
    unfold lv
    by_cases h0 : 0 < c.getD i 0
    · have := hi.2 h0
      rw [if_pos (by omega), if_pos h0, gsum_app, ih]
      simp [gsum, Tr.sgn]
    · have : ¬ 0 < cs i T := fun hh => h0 (hi.1 hh)
      rw [if_neg (by omega), if_neg h0, ih]
theorem chk_of {l : List Int} (hl : l.length ≤ 288) (hb : ∀ i, i < l.length → 0 ≤ l.getD i 0 ∧ l.getD i 0 ≤ 15) (h : kr l l.length = 32768 ∨ kr l l.length = 0 ∨ (usedT l l.length = 1 ∧ longT l l.length = 1)) : chk l = 0 := by
  unfold chk
  rw [if_neg (by omega), if_neg, if_pos h]
  intro ha
  obtain ⟨x, hx, hh⟩ := List.any_eq_true.1 ha
  obtain ⟨i, hi, rfl⟩ := List.mem_iff_getElem.1 hx
  have := hb i hi
  rw [List.getD_eq_getElem?_getD, List.getElem?_eq_getElem hi, Option.getD_some] at this
  simp only [Bool.or_eq_true, decide_eq_true_eq] at hh
  omega
/-! ### Costs -/
def costF (l c : List Int) : Nat → Int
  | 0 => 0
  | i + 1 => if 0 ≤ l.getD i 0 ∧ l.getD i 0 ≤ 15 ∧ 0 ≤ c.getD i 0 ∧ c.getD i 0 ≤ 2147483647 then costF l c i + l.getD i 0 * c.getD i 0 else costF l c i
def sumI (f : Nat → Int) : Nat → Int
  | 0 => 0
  | n + 1 => sumI f n + f n
theorem sumI_add (f g : Nat → Int) : ∀ n, sumI (fun i => f i + g i) n = sumI f n + sumI g n
  | 0 => rfl
  | n + 1 => by
    have := sumI_add f g n
    simp only [sumI]
    omega
theorem sumI_congr {f g : Nat → Int} : ∀ n, (∀ i, i < n → f i = g i) → sumI f n = sumI g n
  | 0, _ => rfl
  | n + 1, h => by
    have := sumI_congr n fun i hi => h i (by omega)
    have := h n (by omega)
    simp only [sumI]
    omega
theorem sumI_one (s : Nat) (x : Nat → Int) : ∀ n, sumI (fun i => ((if s = i then 1 else 0 : Nat) : Int) * x i) n = if s < n then x s else 0
  | 0 => rfl
  | n + 1 => by
    have := sumI_one s x n
    simp only [sumI]
    rw [this]
    by_cases e : s = n
    · subst e
      rw [if_neg (by omega), if_pos rfl, if_pos (by omega)]
      simp
    · rw [if_neg e]
      split <;> split <;> first | omega | simp
def Tr.ok (c : List Int) : Tr → Prop
  | .leaf s w => s < c.length ∧ w = c.getD s 0
  | .node a b => a.ok c ∧ b.ok c
theorem Tr.cost {c : List Int} : ∀ {t : Tr}, t.ok c → t.w = sumI (fun i => (t.cnt i : Int) * c.getD i 0) c.length
  | .leaf s w, ⟨h1, h2⟩ => by
    simp only [Tr.w, Tr.cnt]
    rw [sumI_one s (fun i => c.getD i 0), if_pos h1, h2]
  | .node a b, ⟨h1, h2⟩ => by
    have e1 := Tr.cost h1
    have e2 := Tr.cost h2
    simp only [Tr.w, Tr.cnt]
    rw [e1, e2, ← sumI_add]
    refine sumI_congr _ fun i _ => ?_
    rw [Int.natCast_add, Int.add_mul]
theorem ws_cost {c : List Int} : ∀ {T : List Tr}, (∀ t ∈ T, t.ok c) → ws T = sumI (fun i => (cs i T : Int) * c.getD i 0) c.length
  | [], _ => by
    have : ∀ n, sumI (fun i => (cs i [] : Int) * c.getD i 0) n = 0 := fun n => by
      induction n with
      | zero => rfl
      | succ n ih =>
        show sumI (fun i => (cs i [] : Int) * c.getD i 0) n + _ = 0
        rw [ih]
        simp [cs]
    rw [this]
    rfl
  | t :: r, h => by
    simp only [ws, cs]
    rw [Tr.cost (h t (by simp)), ws_cost fun t ht => h t (by simp [ht]), ← sumI_add]
    refine sumI_congr _ fun i _ => ?_
    rw [Int.natCast_add, Int.add_mul]
theorem cost_lens {c : List Int} {T : List Tr} (hc : ∀ i, i < c.length → 0 ≤ c.getD i 0 ∧ c.getD i 0 ≤ 2147483647) (hT : ∀ i, i < c.length → cs i T ≤ 15) : ∀ i, i ≤ c.length → costF (lensOf T c.length) c i = sumI (fun i => (cs i T : Int) * c.getD i 0) i
  | 0, _ => rfl
  | i + 1, h => by
    have ih := cost_lens hc hT i (by omega)
    have h1 := hc i (by omega)
    have h2 := hT i (by omega)
    simp only [costF, sumI]
    rw [lensOf_get (by omega), if_pos (by omega), ih]
theorem rows_ok {c : List Int} {S : List Tr} (h : Sd c S) : ∀ k, ∀ t ∈ rows S k, t.ok c
  | 0, t, ht => by
    obtain ⟨s, h1, rfl, _⟩ := lv_mem.1 (h.perm.mem_iff.1 ht)
    exact ⟨h1, rfl⟩
  | k + 1, t, ht => by
    rcases List.mem_append.1 ((mg_perm _ _).mem_iff.1 ht) with h1 | h1
    · obtain ⟨s, h2, rfl, _⟩ := lv_mem.1 (h.perm.mem_iff.1 h1)
      exact ⟨h2, rfl⟩
    · obtain ⟨a, ha, b, hb, rfl⟩ := prs_mem _ _ h1
      exact ⟨rows_ok h k a ha, rows_ok h k b hb⟩
/-! ### Numbers alone -/
abbrev UpI (l : List Int) : Prop := l.Pairwise fun a b => a ≤ b
def leI (a b : Int) : Bool := decide (a ≤ b)
def prI : List Int → List Int
  | a :: b :: r => (a + b) :: prI r
  | _ => []
def rI (s : List Int) : Nat → List Int
  | 0 => s
  | k + 1 => List.merge s (prI (rI s k)) leI
def isum : List Int → Int
  | [] => 0
  | x :: r => x + isum r
theorem isum_app : ∀ l m, isum (l ++ m) = isum l + isum m
  | [], m => by simp [isum]
  | t :: r, m => by
    have := isum_app r m
    simp only [List.cons_append, isum]
    omega
theorem prI_map : ∀ l : List Tr, (prs l).map Tr.w = prI (l.map Tr.w)
  | [] => rfl
  | [_] => rfl
  | a :: b :: r => by
    have := prI_map r
    simp only [prs, List.map_cons, prI, this]
    rfl
theorem rI_map (S : List Tr) : ∀ k, (rows S k).map Tr.w = rI (S.map Tr.w) k
  | 0 => rfl
  | k + 1 => by
    show (mg S (prs (rows S k))).map Tr.w = List.merge (S.map Tr.w) (prI (rI (S.map Tr.w) k)) leI
    rw [← rI_map S k, ← prI_map]
    unfold mg
    exact List.map_merge fun a _ b _ => rfl
theorem ws_map : ∀ l : List Tr, ws l = isum (l.map Tr.w)
  | [] => rfl
  | t :: r => by
    have := ws_map r
    simp only [ws, List.map_cons, isum, this]
theorem upI_unique {l m : List Int} (h : UpI l) (k : UpI m) (p : l.Perm m) : l = m := by
  refine p.eq_of_pairwise (le := fun a b => a ≤ b) (fun a b _ _ h k => by omega) h k
theorem rI_up {s : List Int} (h : UpI s) : ∀ k, UpI (rI s k)
  | 0 => h
  | k + 1 => by
    have hp : ∀ l : List Int, UpI l → UpI (prI l) := fun l => by
      intro h
      induction l using prI.induct with
      | case1 a b r ih =>
        obtain ⟨h1, h2⟩ := List.pairwise_cons.1 h
        obtain ⟨h3, h4⟩ := List.pairwise_cons.1 h2
        have hm : ∀ (l : List Int) (t : Int), t ∈ prI l → ∃ x ∈ l, ∃ y ∈ l, t = x + y := fun l => by
          induction l using prI.induct with
          | case1 a b r ih =>
            intro t ht
            simp only [prI, List.mem_cons] at ht
            rcases ht with rfl | ht
            · exact ⟨a, by simp, b, by simp, rfl⟩
            · obtain ⟨x, hx, y, hy, e⟩ := ih t ht
              exact ⟨x, by simp [hx], y, by simp [hy], e⟩
          | case2 l hl => intro t ht; rw [prI] at ht; cases ht; exact hl
        refine List.pairwise_cons.2 ⟨fun t ht => ?_, ih h4⟩
        obtain ⟨x, hx, y, hy, rfl⟩ := hm r t ht
        have := h1 x (by simp [hx])
        have := h3 y hy
        omega
      | case2 l hl => rw [prI]; exact List.Pairwise.nil; exact hl
    have := List.pairwise_merge (le := leI) (fun a b c h1 h2 => by simp only [leI, decide_eq_true_eq] at *; omega) (fun a b => by simp only [leI, Bool.or_eq_true, decide_eq_true_eq]; omega) s (prI (rI s k))
      (h.imp fun h => by simpa [leI] using h) ((hp _ (rI_up h k)).imp fun h => by simpa [leI] using h)
    exact this.imp fun h => by simpa [leI] using h
/-- The counts that are, sorted. -/
def srt (c : List Int) : List Int := (c.filter fun x => decide (0 < x)).mergeSort leI
theorem srt_up (c : List Int) : UpI (srt c) := by
  have := List.pairwise_mergeSort (le := leI) (fun a b c h1 h2 => by simp only [leI, decide_eq_true_eq] at *; omega) (fun a b => by simp only [leI, Bool.or_eq_true, decide_eq_true_eq]; omega) (c.filter fun x => decide (0 < x))
  exact this.imp fun h => by simpa [leI] using h
theorem lv_map (c : List Int) : ∀ i, i ≤ c.length → (lv c i).map Tr.w = (c.take i).filter fun x => decide (0 < x)
  | 0, _ => rfl
  | i + 1, h => by
    have ih := lv_map c i (by omega)
    have ht : c.take (i + 1) = c.take i ++ [c[i]] := by rw [List.take_add_one, List.getElem?_eq_getElem (by omega)]; rfl
    have e : c.getD i 0 = c[i] := by rw [List.getD_eq_getElem?_getD, List.getElem?_eq_getElem (by omega)]; rfl
    rw [ht, List.filter_append, ← ih, lv, e]
    split
    · rename_i h0
      rw [List.map_append]
      simp [h0, Tr.w]
    · rename_i h0
      simp [h0]
theorem srt_eq {c s : List Int} (hs : UpI s) (hp : s.Perm (c.filter fun x => decide (0 < x))) : s = srt c :=
  upI_unique hs (srt_up c) (hp.trans (List.mergeSort_perm _ _).symm)
theorem Sd.map {c : List Int} {S : List Tr} (h : Sd c S) : S.map Tr.w = srt c := by
  refine srt_eq (List.pairwise_map.2 h.up) ?_
  have := h.perm.map Tr.w
  rw [lv_map c _ (Nat.le_refl _), List.take_length] at this
  exact this
theorem Sd.len {c : List Int} {S : List Tr} (h : Sd c S) : S.length = (srt c).length := by rw [← h.map, List.length_map]
/-- The least cost. -/
def least (c : List Int) (most : Nat) : Int := if (srt c).length < 2 then (srt c).getD 0 0 else isum ((rI (srt c) (most - 1)).take (2 * (srt c).length - 2))
/-- Why counts have no lengths. -/
def why (c : List Int) (most : Int) : Int := if 288 < c.length then 6 else if most < 1 ∨ 15 < most then 1 else if c.any (fun x => decide (x < 0) || decide (2147483647 < x)) = true then 1
  else if 2 ^ most.toNat < (srt c).length then 13 else 0
/-- What Lengths answers. -/
structure LR (c : List Int) (mo : Nat) (l : List Int) : Prop where
  len : l.length = c.length
  chk : chk l = 0
  most : ∀ i, i < c.length → 0 ≤ l.getD i 0 ∧ l.getD i 0 ≤ (mo : Int) ∧ (l.getD i 0 = 0 ↔ c.getD i 0 = 0)
  cost : costF l c c.length = least c mo
/-- Two leaves or more. -/
theorem LR.many {c : List Int} {S : List Tr} {most : Nat} (h : Sd c S) (h288 : c.length ≤ 288) (hc : ∀ i, i < c.length → 0 ≤ c.getD i 0 ∧ c.getD i 0 ≤ 2147483647) (h1 : 1 ≤ most) (h15 : most ≤ 15) (h2 : 2 ≤ S.length) (hm : S.length ≤ 2 ^ most) :
    2 * S.length - 2 ≤ (rows S (most - 1)).length ∧ LR c most (lensOf ((rows S (most - 1)).take (2 * S.length - 2)) c.length) := by
  have hlong := rows_long (S := S) (most - 1) most hm (by omega)
  rw [show most - (most - 1) = 1 by omega] at hlong
  have hl : 2 * S.length - 2 ≤ (rows S (most - 1)).length := by omega
  obtain ⟨D, d1, d2, d3, d4⟩ := lengths h.lv (k := most - 1) (by omega) h2 hl
  generalize hT : (rows S (most - 1)).take (2 * S.length - 2) = T at d2 d3 ⊢
  have key : ∀ i, i < c.length → cs i T ≤ most ∧ (0 < cs i T ↔ 0 < c.getD i 0) := fun i hi => by
    by_cases h0 : 0 < c.getD i 0
    · obtain ⟨r, hr, rfl⟩ := h.rank hi h0
      have := d1 r hr
      rw [d2 r hr]
      exact ⟨by omega, fun _ => h0, fun _ => this.1⟩
    · have : cs i T = 0 := d3 i fun r hr e => h0 (by rw [← e]; exact (h.sign hr).2.1)
      rw [this]
      exact ⟨Nat.zero_le _, fun hh => by omega, fun hh => absurd hh h0⟩
  refine ⟨hl, lensOf_len _ _, chk_of (by rw [lensOf_len]; exact h288) (fun i hi => ?_) (.inl ?_), fun i hi => ?_, ?_⟩
  · rw [lensOf_len] at hi
    rw [lensOf_get hi]
    have := (key i hi).1
    omega
  · rw [lensOf_len, kr_lens (c := c) (fun i hi => (key i hi).2) _ (Nat.le_refl _), ← gsum_perm h.perm]
    have e := gsum_sumR (fun s => 2 ^ (15 - cs s T)) S S.length (Nat.le_refl _)
    rw [List.take_length] at e
    rw [e]
    have e2 : ∀ n, n ≤ S.length → sumR (fun r => 2 ^ (15 - cs (sg S r) T)) n = sumR (fun r => 2 ^ (15 - D r)) n := fun n => by
      induction n with
      | zero => intro _; rfl
      | succ n ih =>
        intro hn
        simp only [sumR]
        rw [ih (by omega), d2 n (by omega)]
    rw [e2 _ (Nat.le_refl _), d4]
    rfl
  · rw [lensOf_get hi]
    have := key i hi
    have := hc i hi
    omega
  · rw [cost_lens hc (fun i hi => by have := (key i hi).1; omega) _ (Nat.le_refl _), ← ws_cost (T := T) (fun t ht => rows_ok h (most - 1) t (by rw [← hT] at ht; exact List.mem_of_mem_take ht)), ws_map, ← hT, List.map_take, rI_map, h.map]
    unfold least
    rw [if_neg (by rw [← h.len]; omega), h.len]
theorem cs_le {S : List Tr} (h : Lv S) {k m : Nat} (hk : k ≤ 14) (hm : m ≤ (rows S k).length) (i : Nat) : cs i ((rows S k).take m) ≤ 15 := by
  obtain ⟨A, D, b1, b2, b3, b4, b5, b6, b7⟩ := kraft h k hk m hm
  by_cases e : ∃ r, r < S.length ∧ sg S r = i
  · obtain ⟨r, hr, rfl⟩ := e
    rw [b5 r hr]
    have := (b3 r hr).1
    omega
  · rw [b6 i fun r hr hh => e ⟨r, hr, hh⟩]
    exact Nat.zero_le _
theorem rows_short (S : List Tr) : ∀ k, (rows S k).length ≤ 2 * S.length
  | 0 => by show S.length ≤ _; omega
  | k + 1 => by
    have := rows_short S k
    rw [rows_len]
    omega
theorem ws_le {B : Int} : ∀ {l : List Tr}, (∀ t ∈ l, t.w ≤ B) → ws l ≤ (l.length : Int) * B
  | [], _ => by simp [ws]
  | t :: r, h => by
    have h1 := h t (by simp)
    have h2 := ws_le fun t ht => h t (List.mem_cons_of_mem _ ht)
    simp only [ws, List.length_cons]
    rw [Int.natCast_add, Int.add_mul]
    omega
theorem ws_nn : ∀ {l : List Tr}, (∀ t ∈ l, 0 ≤ t.w) → 0 ≤ ws l
  | [], _ => Int.le_refl _
  | t :: r, h => by
    have h1 := h t (by simp)
    have h2 := ws_nn fun t ht => h t (List.mem_cons_of_mem _ ht)
    simp only [ws]
    omega
/-- No weight is great. -/
theorem rows_w {c : List Int} {S : List Tr} (h : Sd c S) (h288 : c.length ≤ 288) (hc : ∀ i, i < c.length → 0 ≤ c.getD i 0 ∧ c.getD i 0 ≤ 2147483647) {k : Nat} (hk : k ≤ 14) : ∀ t ∈ rows S k, 0 ≤ t.w ∧ t.w ≤ 1000000000000000 := fun t ht => by
  have h0 := rows_pos h.lv k
  have h1 := ws_mem (fun t ht => Int.le_of_lt (h0 t ht)) t ht
  have h2 := rows_ws h.lv k
  have h3 : ws S ≤ (S.length : Int) * 2147483647 := ws_le fun t ht => by
    obtain ⟨s, h1, rfl, h2⟩ := lv_mem.1 (h.perm.mem_iff.1 ht)
    exact (hc s h1).2
  have h4 : S.length ≤ 288 := by
    have := lv_len c c.length
    rw [h.perm.length_eq]
    omega
  have h5 : 0 ≤ ws S := ws_nn fun t ht => Int.le_of_lt (rows_pos h.lv 0 t ht)
  have h6 : ((k + 1 : Nat) : Int) * ws S ≤ 15 * ws S := Int.mul_le_mul_of_nonneg_right (by omega) h5
  exact ⟨Int.le_of_lt (h0 t ht), by omega⟩
theorem lv_srt (c : List Int) : (lv c c.length).length = (srt c).length := by
  have := congrArg List.length (lv_map c _ (Nat.le_refl _))
  rw [List.length_map, List.take_length] at this
  rw [this]
  unfold srt
  rw [List.length_mergeSort]
/-- None, or one. -/
theorem LR.none {c : List Int} {S : List Tr} {most : Nat} (h : Sd c S) (h288 : c.length ≤ 288) (hc : ∀ i, i < c.length → 0 ≤ c.getD i 0 ∧ c.getD i 0 ≤ 2147483647) (h1 : 1 ≤ most) (hS : S.length ≤ 1) : LR c most (lensOf S c.length) := by
  have hle : ∀ i, cs i S ≤ 1 := fun i => by
    match S, hS, h with
    | [], _, _ => simp [cs]
    | [t], _, h =>
      obtain ⟨s, w, rfl, _⟩ := h.lv.leaf t (by simp)
      simp only [cs, Tr.cnt]
      split <;> omega
  have key : ∀ i, i < c.length → (0 < cs i S ↔ 0 < c.getD i 0) := fun i hi => by
    have hh := h.lv.cs_take i S.length (Nat.le_refl _)
    rw [List.take_length] at hh
    by_cases h0 : 0 < c.getD i 0
    · obtain ⟨r, hr, rfl⟩ := h.rank hi h0
      rw [hh.1 r hr rfl, if_pos hr]
      exact ⟨fun _ => h0, fun _ => by decide⟩
    · rw [hh.2 fun r hr e => h0 (by rw [← e]; exact (h.sign hr).2.1)]
      exact ⟨fun hh => by omega, fun hh => absurd hh h0⟩
  refine ⟨lensOf_len _ _, chk_of (by rw [lensOf_len]; exact h288) (fun i hi => ?_) ?_, fun i hi => ?_, ?_⟩
  · rw [lensOf_len] at hi
    rw [lensOf_get hi]
    have := hle i
    omega
  · rw [lensOf_len]
    match S, hS, h with
    | [], _, _ =>
      refine .inr (.inl ?_)
      have : ∀ i, i ≤ c.length → kr (lensOf [] c.length) i = 0 := fun i => by
        induction i with
        | zero => intro _; rfl
        | succ i ih =>
          intro hi
          show (if 0 < (lensOf [] c.length).getD i 0 then _ else kr (lensOf [] c.length) i) = 0
          rw [lensOf_get (by omega), if_neg (by simp [cs]), ih (by omega)]
      exact this _ (Nat.le_refl _)
    | [t], _, h =>
      refine .inr (.inr ?_)
      obtain ⟨q1, q2, q3⟩ := h.sign (r := 0) (by simp)
      generalize hs : sg [t] 0 = s at q1 q2 q3
      have q3 : t = Tr.leaf s (c.getD s 0) := q3
      subst q3
      have hcs : ∀ i, cs i [Tr.leaf s (c.getD s 0)] = if s = i then 1 else 0 := fun i => by simp [cs, Tr.cnt]
      have : ∀ i, i ≤ c.length → usedT (lensOf [Tr.leaf s (c.getD s 0)] c.length) i = (if s < i then 1 else 0) ∧ longT (lensOf [Tr.leaf s (c.getD s 0)] c.length) i = (if s < i then 1 else 0) := fun i => by
        induction i with
        | zero => intro _; exact ⟨rfl, rfl⟩
        | succ i ih =>
          intro hi
          obtain ⟨i1, i2⟩ := ih (by omega)
          have e1 : usedT (lensOf [Tr.leaf s (c.getD s 0)] c.length) (i + 1) = if (lensOf [Tr.leaf s (c.getD s 0)] c.length).getD i 0 ≠ 0 then usedT (lensOf [Tr.leaf s (c.getD s 0)] c.length) i + 1 else usedT (lensOf [Tr.leaf s (c.getD s 0)] c.length) i := rfl
          have e2 : longT (lensOf [Tr.leaf s (c.getD s 0)] c.length) (i + 1) = if (lensOf [Tr.leaf s (c.getD s 0)] c.length).getD i 0 > longT (lensOf [Tr.leaf s (c.getD s 0)] c.length) i then (lensOf [Tr.leaf s (c.getD s 0)] c.length).getD i 0 else longT (lensOf [Tr.leaf s (c.getD s 0)] c.length) i := rfl
          rw [e1, e2, i1, i2, lensOf_get (by omega), hcs]
          rcases Nat.lt_trichotomy s i with e | e | e
          · have a1 : s ≠ i := by omega
            have a2 : s < i + 1 := by omega
            simp [a1, e, a2]
          · subst e
            simp
          · have a1 : s ≠ i := by omega
            have a2 : ¬ s < i + 1 := by omega
            have a3 : ¬ s < i := by omega
            simp [a1, a2, a3]
      have := this _ (Nat.le_refl _)
      rw [if_pos q1] at this
      exact this
  · rw [lensOf_get hi]
    have := key i hi
    have := hle i
    have := hc i hi
    omega
  · rw [cost_lens hc (fun i hi => by have := hle i; omega) _ (Nat.le_refl _), ← ws_cost (T := S) (fun t ht => rows_ok h 0 t ht), ws_map, h.map]
    have hl := h.len
    unfold least
    rw [if_pos (by omega)]
    match he : srt c, hl with
    | [], _ => rfl
    | [x], _ => simp [isum]
    | x :: y :: r, hl => simp only [List.length_cons] at hl; omega
end Pm
end Go.Proofs.YtjkoafjnmkchdaaDoor

/- Inflate: stored blocks; InflateStored. Condition: the laid variables. -/
namespace Go.Proofs.YtjkoafjnmkchdaaDoor
namespace Inf
open Sh Bit
set_option linter.unusedVariables false
set_option linter.unusedSimpArgs false
set_option maxRecDepth 4000
set_option maxHeartbeats 1000000
/-! ### Numbers of whole bytes -/
theorem bt_low8 (s : ByteArray) (i k : Nat) (hk : k < 8) : bt s 1 (8 * i + k) = byt s i / 2 ^ k % 2 := by
  unfold bt
  rw [if_pos rfl, show (8 * i + k) / 8 = i by omega, show (8 * i + k) % 8 = k by omega]
theorem tk_step (s : ByteArray) (p n : Nat) : tk s 1 p (n + 1) = tk s 1 p n + bt s 1 (p + n) * 2 ^ n := by
  show (if (1 : Int) = 1 then _ else _) = _
  rw [if_pos rfl]
theorem tk_low8 (s : ByteArray) (i : Nat) : tk s 1 (8 * i) 8 = byt s i := by
  have hb := byt_bd s i
  rw [tk_step, tk_step, tk_step, tk_step, tk_step, tk_step, tk_step, tk_step, show tk s 1 (8 * i) 0 = 0 by rfl]
  rw [bt_low8 s i 0 (by omega), bt_low8 s i 1 (by omega), bt_low8 s i 2 (by omega), bt_low8 s i 3 (by omega), bt_low8 s i 4 (by omega), bt_low8 s i 5 (by omega), bt_low8 s i 6 (by omega), bt_low8 s i 7 (by omega)]
  simp only [show (2 : Int) ^ 7 = 128 by decide, show (2 : Int) ^ 6 = 64 by decide, show (2 : Int) ^ 5 = 32 by decide, show (2 : Int) ^ 4 = 16 by decide, show (2 : Int) ^ 3 = 8 by decide, show (2 : Int) ^ 2 = 4 by decide, show (2 : Int) ^ 1 = 2 by decide, show (2 : Int) ^ 0 = 1 by decide]
  omega
theorem tk_low16 (s : ByteArray) (i : Nat) : tk s 1 (8 * i) 16 = byt s i + 256 * byt s (i + 1) := by
  rw [show (16 : Nat) = 8 + 8 by rfl, tk_low, tk_low8, show 8 * i + 8 = 8 * (i + 1) by omega, tk_low8, show (2 : Int) ^ 8 = 256 by decide]
  omega
/-- A stored block: the flag, the length, its complement, the data. -/
def hd5 (f : UInt8) (n : Nat) : List UInt8 := [f, UInt8.ofNat (n % 256), UInt8.ofNat (n / 256), UInt8.ofNat (255 - n % 256), UInt8.ofNat (255 - n / 256)]
def blkS (f : UInt8) (p : List UInt8) : List UInt8 := hd5 f p.length ++ p
theorem blkS_len (f : UInt8) (p : List UInt8) : (blkS f p).length = 5 + p.length := by unfold blkS hd5; simp; omega
theorem of_toNat {n : Nat} (h : n < 256) : (UInt8.ofNat n).toNat = n := by rw [UInt8.toNat_ofNat', Nat.mod_eq_of_lt (by omega)]
theorem byt_mid {t : ByteArray} {pre rest : List UInt8} {f : UInt8} {p : List UInt8} (ht : t.data.toList = pre ++ (blkS f p ++ rest)) {k : Nat} (hk : k < 5) : byt t (pre.length + k) = (((hd5 f p.length).getD k 0).toNat : Int) := by
  rw [byt_l, ht, List.getD_eq_getElem?_getD, List.getElem?_append_right (by omega), Nat.add_sub_cancel_left]
  unfold blkS
  rw [List.append_assoc, List.getElem?_append_left (by show k < 5; exact hk), List.getD_eq_getElem?_getD]
theorem block_at {t : ByteArray} {pre rest p : List UInt8} {f : UInt8} {most : Nat} {out : List UInt8} (ht : t.data.toList = pre ++ (blkS f p ++ rest)) (hf : f.toNat ≤ 1) (hp : p.length ≤ 65535) (hm : out.length + p.length ≤ most) :
    num t (8 * pre.length) 1 = .ok ((f.toNat : Int), 8 * pre.length + 1) ∧ num t (8 * pre.length + 1) 2 = .ok (0, 8 * pre.length + 1 + 2) ∧ block t most 0 out (8 * pre.length + 1 + 2) = .ok (out ++ p, 8 * (pre ++ blkS f p).length) := by
  have hsz : t.size = pre.length + (5 + p.length + rest.length) := by
    rw [size_list, ht, List.length_append, List.length_append, blkS_len]
  have b0 := byt_mid ht (k := 0) (by omega)
  have b1 := byt_mid ht (k := 1) (by omega)
  have b2 := byt_mid ht (k := 2) (by omega)
  have b3 := byt_mid ht (k := 3) (by omega)
  have b4 := byt_mid ht (k := 4) (by omega)
  rw [Nat.add_zero] at b0
  have b0 : byt t pre.length = (f.toNat : Int) := b0
  have b1 : byt t (pre.length + 1) = ((UInt8.ofNat (p.length % 256)).toNat : Int) := b1
  have b2 : byt t (pre.length + 2) = ((UInt8.ofNat (p.length / 256)).toNat : Int) := b2
  have b3 : byt t (pre.length + 3) = ((UInt8.ofNat (255 - p.length % 256)).toNat : Int) := b3
  have b4 : byt t (pre.length + 4) = ((UInt8.ofNat (255 - p.length / 256)).toNat : Int) := b4
  rw [of_toNat (by omega)] at b1 b2 b3 b4
  refine ⟨?_, ?_, ?_⟩
  · unfold num
    rw [if_pos (by omega), tk_step, show tk t 1 (8 * pre.length) 0 = 0 by rfl, bt_low8 t _ 0 (by omega), b0]
    congr 2
    simp only [show (2 : Int) ^ 0 = 1 by decide]
    omega
  · unfold num
    rw [if_pos (by omega), tk_step, tk_step, show tk t 1 (8 * pre.length + 1) 0 = 0 by rfl, Nat.add_zero, bt_low8 t _ 1 (by omega), show 8 * pre.length + 1 + 1 = 8 * pre.length + 2 by omega, bt_low8 t _ 2 (by omega), b0]
    congr 2
    simp only [show (2 : Int) ^ 0 = 1 by decide, show (2 : Int) ^ 1 = 2 by decide, show (2 : Int) ^ 2 = 4 by decide]
    omega
  · unfold block
    rw [if_neg (by decide), if_pos rfl]
    unfold stored
    have e1 : (8 * pre.length + 1 + 2 + 7) / 8 * 8 = 8 * (pre.length + 1) := by omega
    have n1 : num t (8 * (pre.length + 1)) 16 = .ok ((p.length : Int), 8 * (pre.length + 1) + 16) := by
      unfold num
      rw [if_pos (by omega), tk_low16, show pre.length + 1 + 1 = pre.length + 2 by omega, b1, b2]
      congr 2
      omega
    have n2 : num t (8 * (pre.length + 1) + 16) 16 = .ok (65535 - (p.length : Int), 8 * (pre.length + 1) + 16 + 16) := by
      unfold num
      rw [if_pos (by omega), show 8 * (pre.length + 1) + 16 = 8 * (pre.length + 3) by omega, tk_low16, show pre.length + 3 + 1 = pre.length + 4 by omega, b3, b4]
      congr 2
      omega
    rw [e1, n1]
    dsimp only
    rw [n2]
    dsimp only
    rw [if_neg (fun hh => hh rfl), Int.toNat_natCast, if_neg (by omega), if_neg (by omega)]
    have hx : (t.extract ((8 * (pre.length + 1) + 16 + 16) / 8) ((8 * (pre.length + 1) + 16 + 16) / 8 + p.length)).data.toList = p := by
      rw [extract_list, ht, show (8 * (pre.length + 1) + 16 + 16) / 8 = pre.length + 5 by omega, Nat.add_sub_cancel_left]
      unfold blkS
      rw [List.append_assoc, ← List.append_assoc, List.drop_left' (by rw [List.length_append]; rfl), List.take_left' rfl]
    rw [hx]
    congr 2
    rw [List.length_append, blkS_len]
    omega
section
variable (L : List ByteArray)
/-- The first i blocks, and their data. -/
def encI : Nat → List UInt8
  | 0 => []
  | i + 1 => encI i ++ blkS (if i + 1 = L.length then 1 else 0) (L.getD i ⟨#[]⟩).data.toList
def catI : Nat → List UInt8
  | 0 => []
  | i + 1 => catI i ++ (L.getD i ⟨#[]⟩).data.toList
theorem encI_pre (i : Nat) : ∀ d, ∃ r, encI L (i + d) = encI L i ++ r
  | 0 => ⟨[], by simp⟩
  | d + 1 => by
    obtain ⟨r, h⟩ := encI_pre i d
    exact ⟨r ++ blkS (if i + d + 1 = L.length then 1 else 0) (L.getD (i + d) ⟨#[]⟩).data.toList, by
      show encI L (i + d) ++ _ = _
      rw [h, List.append_assoc]
      rfl⟩
theorem catI_pre (i : Nat) : ∀ d, (catI L i).length ≤ (catI L (i + d)).length
  | 0 => Nat.le_refl _
  | d + 1 => by
    have := catI_pre i d
    show _ ≤ (catI L (i + d) ++ _).length
    rw [List.length_append]
    omega
theorem enc_len (h : ∀ i, i < L.length → (L.getD i ⟨#[]⟩).size ≤ 300) : ∀ i, i ≤ L.length → (encI L i).length ≤ i * 305 ∧ (catI L i).length ≤ i * 300 ∧ i ≤ (encI L i).length
  | 0, _ => ⟨Nat.le_refl _, Nat.le_refl _, Nat.le_refl _⟩
  | i + 1, hi => by
    obtain ⟨a, b, c⟩ := enc_len h i (by omega)
    have hz := h i (by omega)
    rw [size_list] at hz
    show (encI L i ++ _).length ≤ _ ∧ (catI L i ++ _).length ≤ _ ∧ _ ≤ (encI L i ++ _).length
    rw [List.length_append, List.length_append, blkS_len]
    omega
theorem enc_all {t : ByteArray} {most : Nat} (h0 : L.length ≠ 0) (h : ∀ i, i < L.length → (L.getD i ⟨#[]⟩).size ≤ 300) (ht : t.data.toList = encI L L.length) (hm : (catI L L.length).length ≤ most) (K : Nat) (hK : L.length ≤ K) :
    allQ t most K [] 0 = .ok (catI L L.length, 8 * t.size) := by
  have step : ∀ i, i < L.length → ∃ rest, t.data.toList = encI L i ++ (blkS (if i + 1 = L.length then 1 else 0) (L.getD i ⟨#[]⟩).data.toList ++ rest) := fun i hi => by
    obtain ⟨r, hr⟩ := encI_pre L (i + 1) (L.length - (i + 1))
    rw [show i + 1 + (L.length - (i + 1)) = L.length by omega] at hr
    refine ⟨r, ?_⟩
    rw [ht, hr]
    show (encI L i ++ _) ++ r = _
    rw [List.append_assoc]
  have one : ∀ i, i < L.length → ∀ k, allQ t most (k + 1) (catI L i) (8 * (encI L i).length) = if i + 1 = L.length then .ok (catI L (i + 1), 8 * (encI L (i + 1)).length) else allQ t most k (catI L (i + 1)) (8 * (encI L (i + 1)).length) := fun i hi k => by
    obtain ⟨rest, hr⟩ := step i hi
    have hz := h i hi
    rw [size_list] at hz
    have hc := catI_pre L (i + 1) (L.length - (i + 1))
    rw [show i + 1 + (L.length - (i + 1)) = L.length by omega] at hc
    have hc1 : (catI L (i + 1)).length = (catI L i).length + (L.getD i ⟨#[]⟩).data.toList.length := by show (catI L i ++ _).length = _; rw [List.length_append]
    obtain ⟨g1, g2, g3⟩ := block_at (most := most) (out := catI L i) hr (by split <;> decide) (Nat.le_trans hz (by decide)) (by omega)
    conv => lhs; unfold allQ
    rw [g1]
    dsimp only [bnd]
    rw [g2]
    dsimp only
    rw [g3]
    dsimp only
    by_cases hl : i + 1 = L.length
    · rw [if_pos hl, if_pos hl]
      rw [if_pos (by decide)]
      show Except.ok (catI L i ++ _, _) = Except.ok (catI L i ++ _, 8 * (encI L i ++ blkS (if i + 1 = L.length then 1 else 0) _).length)
      rw [if_pos hl]
    · rw [if_neg hl, if_neg hl]
      rw [if_neg (by decide)]
      show allQ t most k (catI L i ++ _) _ = allQ t most k (catI L i ++ _) (8 * (encI L i ++ blkS (if i + 1 = L.length then 1 else 0) _).length)
      rw [if_neg hl]
  have up : ∀ i, i < L.length → allQ t most K [] 0 = allQ t most (K - i) (catI L i) (8 * (encI L i).length) := fun i => by
    induction i with
    | zero => intro _; rfl
    | succ i ih =>
      intro hi
      rw [ih (by omega), show K - i = (K - (i + 1)) + 1 by omega, one i (by omega), if_neg (by omega)]
  rw [up (L.length - 1) (by omega), show K - (L.length - 1) = (K - (L.length - 1) - 1) + 1 by omega, one (L.length - 1) (by omega), if_pos (by omega), show L.length - 1 + 1 = L.length by omega, size_list, ht]
end
def strs (L : List ByteArray) : List Value := L.map .string
def SV (w : World) (s : Slc) (L : List ByteArray) : Prop := s.len = L.length ∧ VRow w s 1 (strs L)
theorem SV.keep {w w' : World} {s : Slc} {L : List ByteArray} (h : SV w s L) (he : Ext (fun _ => False) w w') : SV w' s L := ⟨h.1, h.2.keep he⟩
theorem SV.get {w : World} {s : Slc} {L : List ByteArray} (h : SV w s L) {i : Nat} (hi : i < L.length) : ∃ a, s.p = some a ∧ w.cell? (a.add (i * 1)) = some (.string (L.getD i ⟨#[]⟩)) := by
  obtain ⟨a, ha, hc⟩ := h.2.2 i (.string (L.getD i ⟨#[]⟩)) (by
    unfold strs
    rw [List.getElem?_map, List.getElem?_eq_getElem hi, List.getD_eq_getElem?_getD, List.getElem?_eq_getElem hi]
    rfl)
  exact ⟨a, ha, by rw [Nat.mul_one]; exact hc⟩
theorem data_app (a b : ByteArray) : (a ++ b).data.toList = a.data.toList ++ b.data.toList := by rw [ByteArray.data_append, Array.toList_append]
theorem w8 {n : Nat} (h : n < 256) : IntKind.u8.wrap (n : Int) = ((UInt8.ofNat n).toNat : Int) := by rw [of_toNat h, u8_id (by omega)]
attribute [local irreducible] Ld St Nw Nn Lt LdS
end Inf
end Go.Proofs.YtjkoafjnmkchdaaDoor

/- Deflate: stored, fixed and own blocks give their data back. Plain laws; conditions: a code's lengths, sizes. -/
namespace Go.Proofs.YtjkoafjnmkchdaaDoor
namespace Inf
open Sh Bit Pm
set_option linter.unusedVariables false
set_option linter.unusedSimpArgs false
set_option maxRecDepth 4000
set_option maxHeartbeats 1000000
theorem Enc.all {H : List UInt8 → Prop} {near far : List Int} {p0 : Nat} (hc : chk near = 0) (hf : chk far = 0) : ∀ (l : List Prt) {st : WS} {out : List UInt8}, Enc H near far p0 st out → Fit l out → (∀ p ∈ l, Has near far p) → Enc H near far p0 (l.foldl (wP near far) st) (l.foldl addP out)
  | [], st, out, h, _, _ => h
  | p :: l, st, out, h, ⟨f1, f2, f3⟩, hh => Enc.all hc hf l (h.part hc hf f1 f2 (hh p (List.mem_cons_self ..))) f3 fun x hx => hh x (List.mem_cons_of_mem _ hx)
/-! ### A stored block -/
theorem stored_few {s : ByteArray} {p : Nat} {out o : List UInt8} {m m' q : Nat} (h : stored s p out m' = .ok (o, q)) (hm : m < o.length) : stored s p out m = .error 5 := by
  unfold stored at h ⊢
  cases h1 : num s ((p + 7) / 8 * 8) 16 with
  | error e => rw [h1] at h; cases h
  | ok z =>
    obtain ⟨n, p1⟩ := z
    rw [h1] at h
    dsimp only at h ⊢
    cases h2 : num s p1 16 with
    | error e => rw [h2] at h; cases h
    | ok z =>
      obtain ⟨mm, p2⟩ := z
      rw [h2] at h
      dsimp only at h ⊢
      by_cases c1 : mm ≠ 65535 - n
      · rw [if_pos c1] at h; cases h
      rw [if_neg c1] at h ⊢
      by_cases c2 : ¬ out.length + n.toNat ≤ m'
      · rw [if_pos c2] at h; cases h
      rw [if_neg c2] at h
      by_cases c3 : ¬ p2 / 8 + n.toNat ≤ s.size
      · rw [if_pos c3] at h; cases h
      rw [if_neg c3] at h
      cases h
      rw [List.length_append] at hm
      have e1 : (s.extract (p2 / 8) (p2 / 8 + n.toNat)).data.toList.length = (s.extract (p2 / 8) (p2 / 8 + n.toNat)).size := Array.length_toList
      rw [e1, ByteArray.size_extract] at hm
      rw [if_pos (by omega)]
theorem stored_gives (p : List UInt8) (hp : p.length ≤ 65535) : Gives (blkS 1 p) p := by
  have ht : (⟨(blkS 1 p).toArray⟩ : ByteArray).data.toList = [] ++ (blkS 1 p ++ []) := by simp
  have hlen := blkS_len 1 p
  have blk : ∀ most r, block ⟨(blkS 1 p).toArray⟩ most 0 [] 3 = r → allQ ⟨(blkS 1 p).toArray⟩ most (8 * (⟨(blkS 1 p).toArray⟩ : ByteArray).size + 1) [] 0 = match r with
      | .error e => .error e
      | .ok (o, q) => .ok (o, q) := fun most r hr => by
    obtain ⟨b1, b2, _⟩ := block_at (most := p.length) (out := []) ht (f := 1) (by decide) hp (by simp)
    unfold allQ
    rw [show num ⟨(blkS 1 p).toArray⟩ 0 1 = .ok (1, 1) from b1]
    dsimp only [bnd]
    rw [show num ⟨(blkS 1 p).toArray⟩ 1 2 = .ok (0, 3) from b2]
    dsimp only
    rw [hr]
    cases r with
    | error e => rfl
    | ok z =>
      obtain ⟨o, q⟩ := z
      dsimp only
      rw [if_pos rfl]
  intro most
  refine ⟨fun hm => ?_, fun hm => ?_⟩
  · obtain ⟨_, _, b3⟩ := block_at (most := most) (out := []) ht (f := 1) (by decide) hp (by simpa using hm)
    refine ⟨_, blk most _ b3, ?_⟩
    simp only [List.nil_append]
    omega
  · obtain ⟨_, _, b3⟩ := block_at (most := p.length) (out := []) ht (f := 1) (by decide) hp (by simp)
    have : block ⟨(blkS 1 p).toArray⟩ most 0 [] 3 = .error 5 := by
      have b3 : block ⟨(blkS 1 p).toArray⟩ p.length 0 [] 3 = _ := b3
      unfold block at b3 ⊢
      rw [if_neg (by decide), if_pos rfl] at b3 ⊢
      exact stored_few b3 (by simpa using hm)
    exact blk most _ this
/-! ### A block with the fixed codes -/
def stF : WS := lw (lw ([], 0) 1 1) 1 2
theorem fix_head : WOK 1 stF ∧ pos stF = 3 ∧ ∀ T : List UInt8, Agree 1 (pos stF) stF.1 T → pos stF ≤ 8 * T.length → num ⟨T.toArray⟩ 0 1 = .ok (1, 1) ∧ num ⟨T.toArray⟩ 1 2 = .ok (1, 3) := by
  have h0 : WOK 1 ([], 0) := WOK.zero 1 []
  have h1 := lw_ok h0 1 1
  have p0 : pos (([], 0) : WS) = 0 := rfl
  have p1 : pos (lw ([], 0) 1 1) = 1 := by rw [lw_pos h0, p0]
  refine ⟨lw_ok h1 1 2, by unfold stF; rw [lw_pos h1, p1], fun T ha hT => ?_⟩
  unfold stF at ha hT
  obtain ⟨a1, a2⟩ := lw_back h1 (v := 1) (n := 2) (by decide) ha
  obtain ⟨b1, b2⟩ := lw_back h0 (v := 1) (n := 1) (by decide) a1
  rw [lw_pos h1, p1] at hT
  rw [p1] at a2
  rw [p0] at b2
  exact ⟨b2 (by omega), a2 (by omega)⟩
theorem fix_has {p : Prt} (h : p.ok) : Has fixL fixD p := by
  unfold Has
  rw [fixL_len, fixD_len]
  by_cases hn : p.n = 0
  · rw [if_pos hn]
    have := p.b.toNat_lt
    have := fixL_get p.b.toNat (by omega)
    omega
  · rw [if_neg hn]
    rcases h with h | ⟨_, h3, h4, h5, h6⟩
    · exact absurd h.1 hn
    have a := (kL_spec h3 h4).1
    have b := (kD_spec h5 h6).1
    have := fixL_get (257 + kL p.n) (by omega)
    have := fixD_get (kD p.f) (by omega)
    omega
theorem Fit.ok {l : List Prt} : ∀ {out : List UInt8}, Fit l out → ∀ p ∈ l, p.ok := by
  induction l with
  | nil => intro out _ p hp; cases hp
  | cons q l ih =>
    intro out h p hp
    obtain ⟨h1, _, h3⟩ := h
    rcases List.mem_cons.1 hp with rfl | hp
    · exact h1
    · exact ih h3 p hp
/-- What is written with the fixed codes. -/
def fixO (l : List Prt) : List UInt8 := (cw fixL (l.foldl (wP fixL fixD) stF) 256).1
theorem fixed_gives {l : List Prt} (hf : Fit l []) : Gives (fixO l) (l.foldl addP []) := by
  obtain ⟨h1, h2, h3⟩ := fix_head
  have e := Enc.all chk_fixL chk_fixD l (Enc.zero (near := fixL) (far := fixD) h1 h3 h2.symm) hf fun p hp => fix_has (hf.ok p hp)
  refine e.fin (kind := 1) chk_fixL (by rw [fixL_len]; decide) (by have := fixL_get 256 (by decide); omega) rfl fun T hT => ⟨hT.1, hT.2, fun most => ?_⟩
  unfold block
  rw [if_neg (by decide), if_neg (by decide), if_neg (by decide)]
/-! ### A block with its own codes -/
/-- The lengths that are written, and the codes of which. -/
structure Own where
  a : List Int
  b : List Int
  c : List Int
def Own.na (o : Own) : Nat := cutN o.a 257 o.a.length
def Own.nb (o : Own) : Nat := cutN o.b 1 o.b.length
def Own.ni (o : Own) : Nat := cutN (inOrd o.c) 4 (inOrd o.c).length
def Own.all (o : Own) : List Int := o.a.take o.na ++ o.b.take o.nb
def Own.st1 (o : Own) : WS := lw (lw (lw (lw (lw ([], 0) 1 1) 2 2) (o.na - 257) 5) (o.nb - 1) 5) (o.ni - 4) 4
def Own.st2 (o : Own) : WS := (order.take o.ni).foldl (wO o.c) o.st1
def Own.st3 (o : Own) : WS := (marksS o.all).foldl (wM o.c) o.st2
def Own.T (o : Own) (l : List Prt) : List UInt8 := (cw o.a (l.foldl (wP o.a o.b) o.st3) 256).1
structure Own.ok (o : Own) : Prop where
  la : o.a.length = 286
  lb : o.b.length = 30
  lc : o.c.length = 19
  ca : chk o.a = 0
  cb : chk o.b = 0
  cc : chk o.c = 0
  a256 : 0 < o.a.getD 256 0
  c7 : ∀ i, 0 ≤ o.c.getD i 0 ∧ o.c.getD i 0 ≤ 7
  has : ∀ m ∈ marksS o.all, m.1 < 19 ∧ 0 < o.c.getD m.1 0
theorem Own.ta (o : Own) : Trail o.a o.na := Trail.cut o.a 257
theorem Own.tb (o : Own) : Trail o.b o.nb := Trail.cut o.b 1
theorem Own.tc (o : Own) : Trail (inOrd o.c) o.ni := Trail.cut (inOrd o.c) 4
section
variable {o : Own}
theorem Own.sizes (h : o.ok) : 257 ≤ o.na ∧ o.na ≤ 286 ∧ 1 ≤ o.nb ∧ o.nb ≤ 30 ∧ 4 ≤ o.ni ∧ o.ni ≤ 19 ∧ o.all.length = o.na + o.nb := by
  have hi : (inOrd o.c).length = 19 := by unfold inOrd; rw [List.length_map]; decide
  have a := cutN_spec o.a 257 o.a.length
  have b := cutN_spec o.b 1 o.b.length
  have c := cutN_spec (inOrd o.c) 4 (inOrd o.c).length
  have := h.la
  have := h.lb
  have a2 := a.2.1 (by omega)
  have b2 := b.2.1 (by omega)
  have c2 := c.2.1 (by omega)
  unfold Own.na Own.nb Own.ni
  refine ⟨a2, by omega, b2, by omega, c2, by omega, ?_⟩
  unfold Own.all Own.na Own.nb
  rw [List.length_append, List.length_take, List.length_take]
  omega
theorem Own.head (h : o.ok) : WOK 1 o.st1 ∧ pos o.st1 = 17 ∧ ∀ T : List UInt8, Agree 1 (pos o.st1) o.st1.1 T → 17 ≤ 8 * T.length → num ⟨T.toArray⟩ 0 1 = .ok (1, 1) ∧ num ⟨T.toArray⟩ 1 2 = .ok (2, 3) ∧ num ⟨T.toArray⟩ 3 5 = .ok (((o.na - 257 : Nat) : Int), 8) ∧
    num ⟨T.toArray⟩ 8 5 = .ok (((o.nb - 1 : Nat) : Int), 13) ∧ num ⟨T.toArray⟩ 13 4 = .ok (((o.ni - 4 : Nat) : Int), 17) := by
  obtain ⟨s1, s2, s3, s4, s5, s6, _⟩ := Own.sizes h
  have h0 : WOK 1 ([], 0) := WOK.zero 1 []
  have h1 := lw_ok h0 1 1
  have h2 := lw_ok h1 2 2
  have h3 := lw_ok h2 (o.na - 257) 5
  have h4 := lw_ok h3 (o.nb - 1) 5
  have p0 : pos (([], 0) : WS) = 0 := rfl
  have p1 : pos (lw ([], 0) 1 1) = 1 := by rw [lw_pos h0, p0]
  have p2 : pos (lw (lw ([], 0) 1 1) 2 2) = 3 := by rw [lw_pos h1, p1]
  have p3 : pos (lw (lw (lw ([], 0) 1 1) 2 2) (o.na - 257) 5) = 8 := by rw [lw_pos h2, p2]
  have p4 : pos (lw (lw (lw (lw ([], 0) 1 1) 2 2) (o.na - 257) 5) (o.nb - 1) 5) = 13 := by rw [lw_pos h3, p3]
  have p5 : pos o.st1 = 17 := by unfold Own.st1; rw [lw_pos h4, p4]
  refine ⟨lw_ok h4 _ _, p5, fun T ha hT => ?_⟩
  unfold Own.st1 at ha
  obtain ⟨e1, e2⟩ := lw_back h4 (v := o.ni - 4) (n := 4) (by show _ < 16; omega) ha
  obtain ⟨d1, d2⟩ := lw_back h3 (v := o.nb - 1) (n := 5) (by show _ < 32; omega) e1
  obtain ⟨c1, c2⟩ := lw_back h2 (v := o.na - 257) (n := 5) (by show _ < 32; omega) d1
  obtain ⟨b1, b2⟩ := lw_back h1 (v := 2) (n := 2) (by decide) c1
  obtain ⟨a1, a2⟩ := lw_back h0 (v := 1) (n := 1) (by decide) b1
  rw [p0] at a2
  rw [p1] at b2
  rw [p2] at c2
  rw [p3] at d2
  rw [p4] at e2
  exact ⟨a2 (by omega), b2 (by omega), c2 (by omega), d2 (by omega), e2 (by omega)⟩
/-- What the head of such a block tells. -/
def Own.H (o : Own) (T : List UInt8) : Prop := num ⟨T.toArray⟩ 0 1 = .ok (1, 1) ∧ num ⟨T.toArray⟩ 1 2 = .ok (2, 3) ∧ dyn ⟨T.toArray⟩ 3 = .ok (o.a.take o.na, o.b.take o.nb, pos o.st3)
theorem Own.read (h : o.ok) : WOK 1 o.st3 ∧ ∀ T : List UInt8, Agree 1 (pos o.st3) o.st3.1 T → pos o.st3 ≤ 8 * T.length → o.H T := by
  obtain ⟨s1, s2, s3, s4, s5, s6, s7⟩ := Own.sizes h
  obtain ⟨k1, k2, k3⟩ := Own.head h
  have hol : (order.take o.ni).length = o.ni := by rw [List.length_take]; show min o.ni 19 = _; omega
  have hall : ∀ i, 0 ≤ o.all.getD i 0 ∧ o.all.getD i 0 ≤ 15 := fun i => by
    unfold Own.all
    rw [List.getD_eq_getElem?_getD]
    by_cases hi : i < (o.a.take o.na).length
    · rw [List.getElem?_append_left hi, ← List.getD_eq_getElem?_getD, o.ta.take]
      exact (chk_lok h.ca).nn i
    · rw [List.getElem?_append_right (by omega), ← List.getD_eq_getElem?_getD, o.tb.take]
      exact (chk_lok h.cb).nn _
  obtain ⟨f1, f2⟩ := marksS_fit hall
  let H0 : List UInt8 → Prop := fun T => num ⟨T.toArray⟩ 0 1 = .ok (1, 1) ∧ num ⟨T.toArray⟩ 1 2 = .ok (2, 3) ∧ num ⟨T.toArray⟩ 3 5 = .ok (((o.na - 257 : Nat) : Int), 8) ∧
    num ⟨T.toArray⟩ 8 5 = .ok (((o.nb - 1 : Nat) : Int), 13) ∧ num ⟨T.toArray⟩ 13 4 = .ok (((o.ni - 4 : Nat) : Int), 17) ∧ lens19 ⟨T.toArray⟩ (order.take o.ni) (List.replicate 19 0) 17 = .ok (o.c, pos o.st2)
  have w2 := fun T l => wO_back h.c7 (order.take o.ni) (T := T) (l := l) k1
  have p2 : pos o.st2 = 17 + 3 * o.ni := by
    have := (w2 [] []).2.1
    rw [k2, hol] at this
    exact this
  have z : EncM H0 o.c o.all.length (pos o.st2) o.st2 [] := ⟨(w2 [] []).1, Nat.le_refl _, fun T ha hT => by
    obtain ⟨_, _, b⟩ := w2 T (List.replicate 19 0)
    obtain ⟨b1, b2⟩ := b ha
    obtain ⟨c1, c2, c3, c4, c5⟩ := k3 T b1 (by omega)
    rw [k2, hol] at b2
    have b3 := b2 (by omega)
    rw [ord_back h.lc o.tc, ← p2] at b3
    exact ⟨⟨c1, c2, c3, c4, c5, b3⟩, 0, by omega, Nat.le_refl _, fun k => rfl⟩⟩
  obtain ⟨e, el⟩ := EncM.all h.cc (marksS o.all) z f1 fun m hm => by rw [h.lc]; exact h.has m hm
  rw [f2] at e
  refine ⟨e.ok, fun T ha hT => ?_⟩
  obtain ⟨⟨c1, c2, c3, c4, c5, c6⟩, i, i1, i2, i3⟩ := e.dec T ha hT
  refine ⟨c1, c2, ?_⟩
  have hfuel := i3 (o.all.length + 1 - i)
  rw [show o.all.length + 1 - i + i = o.all.length + 1 by omega] at hfuel
  have hend : lensF o.c ⟨T.toArray⟩ o.all.length (o.all.length + 1 - i) o.all (pos o.st3) = .ok (o.all, pos o.st3) := by
    rw [show o.all.length + 1 - i = (o.all.length - i) + 1 by omega]
    unfold lensF
    rw [if_pos (Nat.le_refl _)]
  have e3 : (marksS o.all).foldl (wM o.c) o.st2 = o.st3 := rfl
  rw [e3, hend, s7] at hfuel
  unfold dyn
  rw [c3]
  dsimp only
  rw [if_neg (by omega), c4]
  dsimp only
  rw [if_neg (by omega), c5]
  dsimp only
  rw [Int.toNat_natCast, Int.toNat_natCast, Int.toNat_natCast, show o.ni - 4 + 4 = o.ni by omega, c6]
  dsimp only
  rw [if_neg (by rw [h.cc]; simp), show o.na - 257 + 257 = o.na by omega, show o.nb - 1 + 1 = o.nb by omega, hfuel]
  dsimp only
  have ta : (o.a.take o.na).length = o.na := by rw [List.length_take, h.la]; omega
  have tk : o.all.take o.na = o.a.take o.na := by unfold Own.all; exact List.take_left' ta
  have dr : o.all.drop o.na = o.b.take o.nb := by unfold Own.all; exact List.drop_left' ta
  have g256 : o.all.getD 256 0 = o.a.getD 256 0 := by
    unfold Own.all
    rw [List.getD_eq_getElem?_getD, List.getElem?_append_left (by omega), ← List.getD_eq_getElem?_getD, o.ta.take]
  have := h.a256
  have ha0 : chk (o.a.take o.na) = 0 := chk_take o.ta (by rw [h.la]; omega) h.ca
  have hb0 : chk (o.b.take o.nb) = 0 := chk_take o.tb (by rw [h.lb]; omega) h.cb
  rw [if_neg (by rw [g256]; omega), tk, dr, if_neg (by rw [ha0]; simp), if_neg (by rw [hb0]; simp)]
theorem own_gives (h : o.ok) {l : List Prt} (hf : Fit l []) (hh : ∀ p ∈ l, Has o.a o.b p) : Gives (o.T l) (l.foldl addP []) := by
  obtain ⟨r1, r2⟩ := Own.read h
  obtain ⟨s1, s2, s3, s4, s5, s6, s7⟩ := Own.sizes h
  have e := Enc.all h.ca h.cb l (Enc.zero (near := o.a) (far := o.b) r1 r2 rfl) hf hh
  refine e.fin (kind := 2) h.ca (by rw [h.la]; decide) h.a256 rfl fun T hT => ⟨hT.1, hT.2.1, fun most => ?_⟩
  unfold block
  rw [if_neg (by decide), if_neg (by decide), if_pos rfl, hT.2.2]
  dsimp only
  exact signs_congr (fun p => sym_take o.ta (by rw [h.la]; omega) _ p) (fun p => sym_take o.tb (by rw [h.lb]; omega) _ p) most _ _ _
end
/-! ### What is read of a text that gives its data -/
theorem Gives.allR {T out : List UInt8} (h : Gives T out) (hb : out.length ≤ 1048576) {most : Int} (hm : (out.length : Int) ≤ most) : allR ⟨T.toArray⟩ most = (⟨out.toArray⟩, (T.length : Int), 0) := by
  rw [allR_Q (by omega)]
  obtain ⟨q, h1, h2⟩ := (h (min most 1048576).toNat).1 (by omega)
  rw [h1]
  dsimp only
  rw [h2]
theorem Gives.few {T out : List UInt8} (h : Gives T out) (hb : out.length ≤ 1048576) {most : Int} (h0 : 0 ≤ most) (hm : most < (out.length : Int)) : Inf.allR ⟨T.toArray⟩ most = (⟨#[]⟩, 0, 5) := by
  rw [allR_Q h0, (h (min most 1048576).toNat).2 (by omega)]
/-- A part of such a text ends too soon. -/
theorem cut_plain {s : ByteArray} {most : Int} {d : ByteArray} (h : (d, ((s.size : Nat) : Int), 0) = Inf.allR s most) {u : Nat} (hu : u < s.size) : Inf.allR (s.extract 0 u) most = (⟨#[]⟩, 0, 4) := by
  by_cases hm : most < 0
  · unfold Inf.allR at h
    rw [if_pos hm] at h
    have h0 : (0 : Int) = 1 := congrArg (fun z => z.2.2) h
    exact absurd h0 (by decide)
  have hm0 : 0 ≤ most := by omega
  rw [allR_Q hm0] at h
  cases hq : allQ s (min most 1048576).toNat (8 * s.size + 1) [] 0 with
  | error x =>
    rw [hq] at h
    have h0 : x = 0 := (congrArg (fun z => z.2.2) h).symm
    subst h0
    exact absurd rfl (all_er _ _ _ (Nat.zero_le _) (Nat.zero_le _) (by omega) hq)
  | ok z =>
    obtain ⟨o, q⟩ := z
    rw [hq] at h
    obtain ⟨h1, h2⟩ := Prod.mk.inj h
    obtain ⟨h2, _⟩ := Prod.mk.inj h2
    have p1 : Pre (s.extract 0 u) s := ⟨s.data.toList.drop u, by rw [extract_list, List.drop_zero, Nat.sub_zero, List.take_append_drop]⟩
    have p2 : (s.extract 0 u).size = u := by rw [ByteArray.size_extract]; omega
    have hG := g_all s (min most 1048576).toNat (8 * s.size + 1) (fun r => 8 * r.size + 1) [] 0 (by omega) (fun r => by omega)
    rw [allR_Q hm0]
    rcases ((hG _ p1 (Nat.zero_le _)).t o q hq).2 with e | e
    · omega
    · have e2 := e.2
      dsimp only at e2
      rw [e2]
end Inf
end Go.Proofs.YtjkoafjnmkchdaaDoor

/- The formulas of 1 functions of the program, written by program (gen.py); the kernel checks each. No condition. -/
namespace Go.Proofs.YtjkoafjnmkchdaaDoor
open Sh
set_option linter.unusedVariables false
set_option maxRecDepth 100000

def C48 (t1 : Option Addr) (vw2 : Option Addr) (sign3 : Int) (w : World) (R : Int → World → Prop) : Prop :=
  Calls Tryd.prog 48 #[.pointer t1, .pointer vw2, .int .i64 sign3] w fun e w' => ∃ r0 : Int, e = .returned (.int .i64 r0) ∧ R r0 w'
theorem C48.mono {t1 : Option Addr} {vw2 : Option Addr} {sign3 : Int} {w : World} {R R' : Int → World → Prop} (h : C48 t1 vw2 sign3 w R) (hr : ∀ r0 w', R r0 w' → R' r0 w') : C48 t1 vw2 sign3 w R' :=
  Calls.mono h fun _ _ ⟨r0, he, hR⟩ => ⟨r0, he, hr _ _ hR⟩

def S48L1 (t1 : Option Addr) (vw2 : Option Addr) (sign3 : Int) (R : Int → World → Prop) (I14 : Int → World → Prop) (s12 : Int) (vw13 : World) : Prop :=
  Br (decide (s12 ≥ 0)) (Nn t1 fun a15 =>
    Ld vw13 (a15.add 1) Slc.v fun (x16 : Slc) =>
    0 ≤ sign3 ∧ sign3 < (x16.len : Nat) ∧ Nn x16.p fun a17 =>
    Ld vw13 (a17.add ((sign3).toNat * 1)) (Value.int .i64) fun (x18 : Int) =>
    0 ≤ s12 ∧ C36 vw2 (iand .i64 (Int.fdiv x18 (2 ^ (min (s12).toNat 64))) 1) 1 vw13 fun r19 vw20 =>
      Br (r19 != 0) (R r19 vw20) (I14 (IntKind.i64.wrap (s12 - 1)) vw20)) (R 0 vw13)
/-- (*foliant/code.Table).Write -/
def S48 (t1 : Option Addr) (vw2 : Option Addr) (sign3 : Int) (w : World) (R : Int → World → Prop) : Prop :=
  Br t1.isNone (R 1 w) (Br vw2.isNone (R 1 w) (Br (decide (sign3 < 0)) (R 1 w) (Nn t1 fun a6 =>
        Ld w a6 Slc.v fun (x7 : Slc) =>
        Br (decide (sign3 ≥ ((x7.len : Nat) : Int))) (R 1 w) (Nn t1 fun a8 =>
          Ld w a8 Slc.v fun (x9 : Slc) =>
          0 ≤ sign3 ∧ sign3 < (x9.len : Nat) ∧ Nn x9.p fun a10 =>
          Ld w (a10.add ((sign3).toNat * 1)) (Value.int .i64) fun (x11 : Int) =>
          Br (x11 == 0) (R 13 w) (Lp (σ := Int) (S48L1 t1 vw2 sign3 R) (IntKind.i64.wrap (x11 - 1)) w)))))
def pl48 : Plan := (.seq (.reg .seq) (.seq (.seq (.reg .seq) (.cond (.seq (.reg .seq) .leaf) .leaf)) (.seq (.reg .seq) (.seq (.seq (.reg .seq) (.cond (.seq (.reg .seq) .leaf) .leaf)) (.seq (.seq (.reg .seq) (.block (.loop [(8, (.one (.int .i64)))] [0, 1, 2] (.seq (.seq (.reg .seq) (.cond .leaf .leaf)) (.seq (.block (.seq (.reg .seq) (.seq (.reg .seq) (.cond (.seq (.reg .seq) .leaf) .leaf)))) (.reg .seq)))))) (.seq (.reg .seq) .leaf))))))
set_option maxRecDepth 100000 in
theorem T48 (t1 : Option Addr) (vw2 : Option Addr) (sign3 : Int) (w : World) (R : Int → World → Prop) (h : S48 t1 vw2 sign3 w R) : C48 t1 vw2 sign3 w R := by
  have e : fnT Tryd.prog ⟨FF, MAY, (fun _ _ => False)⟩ pl48 Tryd.f48 [.pointer t1, .pointer vw2, .int .i64 sign3] w [(.one (.int .i64))] (fun s w => R s w) = S48 t1 vw2 sign3 w R := by kernel_rfl
  exact (fn_calls okF okM Tryd.func48 (by kernel_rfl) (by kernel_rfl) (e.mpr h)).mono fun _ _ ⟨s, he, hR⟩ => ⟨s, he, hR⟩

end Go.Proofs.YtjkoafjnmkchdaaDoor

/- The formulas of 3 functions of the program, written by program (gen.py); the kernel checks each. No condition. -/
namespace Go.Proofs.YtjkoafjnmkchdaaDoor
open Sh
set_option linter.unusedVariables false
set_option maxRecDepth 100000

def C83 (c1 : Option Addr) (w : World) (R : Int → World → Prop) : Prop :=
  Calls Tryd.prog 83 #[.pointer c1] w fun e w' => ∃ r0 : Int, e = .returned (.int .i64 r0) ∧ R r0 w'
theorem C83.mono {c1 : Option Addr} {w : World} {R R' : Int → World → Prop} (h : C83 c1 w R) (hr : ∀ r0 w', R r0 w' → R' r0 w') : C83 c1 w R' :=
  Calls.mono h fun _ _ ⟨r0, he, hR⟩ => ⟨r0, he, hr _ _ hR⟩
def C102 (x1 : Int) (w : World) (R : Bool → World → Prop) : Prop :=
  Calls Tryd.prog 102 #[.int .i64 x1] w fun e w' => ∃ r0 : Bool, e = .returned (.bool r0) ∧ R r0 w'
theorem C102.mono {x1 : Int} {w : World} {R R' : Bool → World → Prop} (h : C102 x1 w R) (hr : ∀ r0 w', R r0 w' → R' r0 w') : C102 x1 w R' :=
  Calls.mono h fun _ _ ⟨r0, he, hR⟩ => ⟨r0, he, hr _ _ hR⟩
def C93 (x1 : Int) (y2 : Int) (w : World) (R : Int → World → Prop) : Prop :=
  Calls Tryd.prog 93 #[.int .i64 x1, .int .i64 y2] w fun e w' => ∃ r0 : Int, e = .returned (.int .i64 r0) ∧ R r0 w'
theorem C93.mono {x1 : Int} {y2 : Int} {w : World} {R R' : Int → World → Prop} (h : C93 x1 y2 w R) (hr : ∀ r0 w', R r0 w' → R' r0 w') : C93 x1 y2 w R' :=
  Calls.mono h fun _ _ ⟨r0, he, hR⟩ => ⟨r0, he, hr _ _ hR⟩

/-- foliant/code.merged$1 -/
def S83 (c1 : Option Addr) (w : World) (R : Int → World → Prop) : Prop :=
  Nn c1 fun a2 =>
  Ld w a2 (Value.int .i64) fun (x3 : Int) =>
  R x3 w
def pl83 : Plan := (.seq (.reg .seq) (.seq (.reg .seq) .leaf))
set_option maxRecDepth 100000 in
theorem T83 (c1 : Option Addr) (w : World) (R : Int → World → Prop) (h : S83 c1 w R) : C83 c1 w R := by
  have e : fnT Tryd.prog ⟨FF, MAY, (fun _ _ => False)⟩ pl83 Tryd.f83 [.pointer c1] w [(.one (.int .i64))] (fun s w => R s w) = S83 c1 w R := by kernel_rfl
  exact (fn_calls okF okM Tryd.func83 (by kernel_rfl) (by kernel_rfl) (e.mpr h)).mono fun _ _ ⟨s, he, hR⟩ => ⟨s, he, hR⟩

/-- cmp.isNaN[int] -/
def S102 (x1 : Int) (w : World) (R : Bool → World → Prop) : Prop :=
  R (x1 != x1) w
def pl102 : Plan := (.seq (.reg .seq) (.seq (.reg .seq) .leaf))
set_option maxRecDepth 100000 in
theorem T102 (x1 : Int) (w : World) (R : Bool → World → Prop) (h : S102 x1 w R) : C102 x1 w R := by
  have e : fnT Tryd.prog ⟨FF, MAY, (fun _ _ => False)⟩ pl102 Tryd.f102 [.int .i64 x1] w [(.one .bool)] (fun s w => R s w) = S102 x1 w R := by kernel_rfl
  exact (fn_calls okF okM Tryd.func102 (by kernel_rfl) (by kernel_rfl) (e.mpr h)).mono fun _ _ ⟨s, he, hR⟩ => ⟨s, he, hR⟩

/-- cmp.Compare[int] -/
def S93 (x1 : Int) (y2 : Int) (w : World) (R : Int → World → Prop) : Prop :=
  C102 x1 w fun r3 vw4 =>
    C102 y2 vw4 fun r5 vw6 =>
      Br r3 (Br r5 (R 0 vw6) (R (-1) vw6)) (Br r5 (R 1 vw6) (Br (decide (x1 < y2)) (R (-1) vw6) (Br (decide (x1 > y2)) (R 1 vw6) (R 0 vw6))))
def pl93 : Plan := (.seq (.reg .seq) (.seq (.reg .seq) (.seq (.reg .seq) (.seq (.seq (.reg .seq) (.cond (.seq (.seq (.reg .seq) (.cond (.seq (.reg .seq) .leaf) .leaf)) (.seq (.reg .seq) .leaf)) .leaf)) (.seq (.seq (.reg .seq) (.cond (.seq (.reg .seq) .leaf) .leaf)) (.seq (.seq (.reg .seq) (.cond (.seq (.reg .seq) .leaf) .leaf)) (.seq (.seq (.reg .seq) (.cond (.seq (.reg .seq) .leaf) .leaf)) (.seq (.reg .seq) .leaf))))))))
set_option maxRecDepth 100000 in
theorem T93 (x1 : Int) (y2 : Int) (w : World) (R : Int → World → Prop) (h : S93 x1 y2 w R) : C93 x1 y2 w R := by
  have e : fnT Tryd.prog ⟨FF, MAY, (fun _ _ => False)⟩ pl93 Tryd.f93 [.int .i64 x1, .int .i64 y2] w [(.one (.int .i64))] (fun s w => R s w) = S93 x1 y2 w R := by kernel_rfl
  exact (fn_calls okF okM Tryd.func93 (by kernel_rfl) (by kernel_rfl) (e.mpr h)).mono fun _ _ ⟨s, he, hR⟩ => ⟨s, he, hR⟩

end Go.Proofs.YtjkoafjnmkchdaaDoor

/- The closure that compares two coins by their weights (it calls a function that it loads). Condition: the loaded function is the one known. -/
namespace Go.Proofs.YtjkoafjnmkchdaaDoor
open Sh
set_option linter.unusedVariables false
set_option maxRecDepth 100000
def wfn : Value := .func (.func 83) #[] #[]
def C92 (x : Option Addr) (y : Option Addr) (c : Addr) (w : World) (R : Int → World → Prop) : Prop :=
  Calls Tryd.prog 92 #[.pointer x, .pointer y, .pointer (some c)] w fun e w' => ∃ r0 : Int, e = .returned (.int .i64 r0) ∧ R r0 w'
theorem C92.mono {x : Option Addr} {y : Option Addr} {c : Addr} {w : World} {R R' : Int → World → Prop} (h : C92 x y c w R) (hr : ∀ r0 w', R r0 w' → R' r0 w') : C92 x y c w R' :=
  Calls.mono h fun _ _ ⟨r0, he, hR⟩ => ⟨r0, he, hr _ _ hR⟩
/-- A load whose value is known. -/
theorem take_load {P : Program} {F : Fx} {ops : Array Oper} {i : Nat} {r : Od} {J : List Nat} {S : World → Prop} {listed : Array Bool} {E : Env} {w : World} {K : Env → World → Prop} {o : Oper} {t : TypeId} {x : Operand} {a : Addr} {v : Value} {d : TypeDesc} {n : Nat}
    (ho : ops[i]? = some o) (hop : o.op = .load t x) (hg : o.guard = none) (hc : ((Region.free .any ops listed i && (Region.ready .any ops listed).contains i) && (!isLoad o.op || J.all fun j => anc ops j i)) = true) (hh : (hasAll E o.op && stillOp P o.op) = true)
    (hx : E.rho x = .pointer (some a)) (hd : P.underlying t = some d) (hn : szOf P t = some n) (ha : isAggD (some d) = false) (hraw : tyD d = .raw) (hS : ∀ w, S w → w.cell? a = some v)
    (k : heldT P F ops r [] J S (listed.setIfInBounds i true) (E.put o.dst v) w K) : heldT P F ops (.take i r) [] J S listed E w K := by
  unfold heldT
  rw [ho]
  have hc' : (([] : List Nat).isEmpty && (Region.free .any ops listed i && (Region.ready .any ops listed).contains i) && (!isLoad o.op || J.all fun j => anc ops j i)) = true := by
    rw [List.isEmpty_nil, Bool.true_and]; exact hc
  dsimp only
  rw [hc']
  dsimp only
  unfold gdT
  rw [hg]
  dsimp only
  rw [hh]
  dsimp only
  unfold opQ
  rw [hop]
  dsimp only
  unfold ldQ
  rw [hx]
  dsimp only
  rw [hd, hn]
  dsimp only
  rw [ha]
  dsimp only
  rw [hraw]
  exact ⟨v, hS, k⟩
def opsB : Option Code → Array Oper
  | some (.seq _ (.seq (.region _ ops _) _)) => ops
  | _ => #[]
def odCmp : Od := .take 0 (.take 3 (.take 1 (.take 4 (.eff 2 none (.eff 5 none (.eff 6 (some []) (.take 7 .done)))))))
def plCmp : Plan := .seq (.reg .seq) (.seq (.reg (.held [6] odCmp)) .leaf)
theorem phT_of {S : World → Prop} {w : World} {k : (World → Prop) → Prop} (h : S w) (hk : k S) : phT true w k := ⟨S, h, hk⟩
theorem T92 (x y : Option Addr) (c : Addr) (w : World) (R : Int → World → Prop) (hc : w.cell? c = some wfn)
    (h : C83 x w.drew fun r8 w1 => w1.cell? c = some wfn ∧ C83 y w1 fun r11 w2 => w2.cell? c = some wfn ∧ C93 r8 r11 w2 fun r w3 => R r w3) : C92 x y c w R := by
  have e : fnT Tryd.prog ⟨FF, MAY, (fun _ _ => False)⟩ plCmp Tryd.f92 [.pointer x, .pointer y, .pointer (some c)] w [(.one (.int .i64))] (fun s w => R s w) = phT true w.drew fun S => heldT Tryd.prog ⟨FF, MAY, (fun _ _ => False)⟩ (opsB Tryd.f92.body) odCmp [] [6] S (Array.replicate 8 false) [(5, .int .i64 0), (0, .pointer x), (1, .pointer y), (2, .pointer (some c))] w.drew fun E w => codeT Tryd.prog ⟨FF, MAY, (fun _ _ => False)⟩ .leaf .ret E w fun e E w => match e with
      | .ret => resT Tryd.prog Tryd.f92.results.toList E w fun vs => match Sg.get? [(.one (.int .i64))] vs with
        | some s => R s w
        | none => False
      | .normal => resT Tryd.prog Tryd.f92.results.toList E w fun vs => match Sg.get? [(.one (.int .i64))] vs with
        | some s => R s w
        | none => False
      | _ => False := by kernel_rfl
  refine (fn_calls okF okM Tryd.func92 (by kernel_rfl) (by kernel_rfl) (e.mpr (phT_of (S := fun w' => w'.cell? c = some wfn) hc ?_))).mono fun _ _ ⟨s, he, hR⟩ => ⟨s, he, hR⟩
  refine take_load (i := 0) (d := (Tryd.prog.underlying 136).get!) (n := 1) (t := 136) (x := .tmp 2) (o := (opsB Tryd.f92.body)[0]!) (by kernel_rfl) (by kernel_rfl) (by kernel_rfl) (by kernel_rfl) (by kernel_rfl) (a := c) (by kernel_rfl) (by kernel_rfl) (by kernel_rfl) (by kernel_rfl) (by kernel_rfl) (fun _ h => h) ?_
  refine take_load (i := 3) (d := (Tryd.prog.underlying 136).get!) (n := 1) (t := 136) (x := .tmp 2) (o := (opsB Tryd.f92.body)[3]!) (by kernel_rfl) (by kernel_rfl) (by kernel_rfl) (by kernel_rfl) (by kernel_rfl) (a := c) (by kernel_rfl) (by kernel_rfl) (by kernel_rfl) (by kernel_rfl) (by kernel_rfl) (fun _ h => h) ?_
  refine Eq.mpr ?_ h
  kernel_rfl
end Go.Proofs.YtjkoafjnmkchdaaDoor

/- The formulas of 14 functions of the program, written by program (gen.py); the kernel checks each. No condition. -/
namespace Go.Proofs.YtjkoafjnmkchdaaDoor
open Sh
set_option linter.unusedVariables false
set_option maxRecDepth 100000

def C100 (s1 : Slc) (n2 : Int) (w : World) (R : Slc → World → Prop) (PR : Value → World → Prop) : Prop :=
  Calls Tryd.prog 100 #[Slc.v s1, .int .i64 n2] w fun e w' => (∃ r0 : Slc, e = .returned (Slc.v r0) ∧ R r0 w') ∨ ∃ v, e = .panicked (onePanic v) ∧ PR v w'
theorem C100.mono {s1 : Slc} {n2 : Int} {w : World} {R R' : Slc → World → Prop} {PR PR' : Value → World → Prop} (h : C100 s1 n2 w R PR) (hr : ∀ r0 w', R r0 w' → R' r0 w') (hp : ∀ v w', PR v w' → PR' v w') : C100 s1 n2 w R' PR' :=
  Calls.mono h fun _ _ he => he.elim (fun ⟨r0, he, hR⟩ => .inl ⟨r0, he, hr _ _ hR⟩) fun ⟨v, he, hP⟩ => .inr ⟨v, he, hp _ _ hP⟩
def C90 (slices1 : Slc) (w : World) (R : Slc → World → Prop) (PR : Value → World → Prop) : Prop :=
  Calls Tryd.prog 90 #[Slc.v slices1] w fun e w' => (∃ r0 : Slc, e = .returned (Slc.v r0) ∧ R r0 w') ∨ ∃ v, e = .panicked (onePanic v) ∧ PR v w'
theorem C90.mono {slices1 : Slc} {w : World} {R R' : Slc → World → Prop} {PR PR' : Value → World → Prop} (h : C90 slices1 w R PR) (hr : ∀ r0 w', R r0 w' → R' r0 w') (hp : ∀ v w', PR v w' → PR' v w') : C90 slices1 w R' PR' :=
  Calls.mono h fun _ _ he => he.elim (fun ⟨r0, he, hR⟩ => .inl ⟨r0, he, hr _ _ hR⟩) fun ⟨v, he, hP⟩ => .inr ⟨v, he, hp _ _ hP⟩
def C105 (data1 : Slc) (a2 : Int) (b3 : Int) (cmp4 : Value) (w : World) (R : World → Prop) : Prop :=
  Calls Tryd.prog 105 #[Slc.v data1, .int .i64 a2, .int .i64 b3, cmp4] w fun e w' => e = .returned (.tuple #[]) ∧ R w'
theorem C105.mono {data1 : Slc} {a2 : Int} {b3 : Int} {cmp4 : Value} {w : World} {R R' : World → Prop} (h : C105 data1 a2 b3 cmp4 w R) (hr : ∀ w', R w' → R' w') : C105 data1 a2 b3 cmp4 w R' :=
  Calls.mono h fun _ _ ⟨he, hR⟩ => ⟨he, hr _ hR⟩
def C108 (data1 : Slc) (a2 : Int) (b3 : Int) (n4 : Int) (cmp5 : Value) (w : World) (R : World → Prop) : Prop :=
  Calls Tryd.prog 108 #[Slc.v data1, .int .i64 a2, .int .i64 b3, .int .i64 n4, cmp5] w fun e w' => e = .returned (.tuple #[]) ∧ R w'
theorem C108.mono {data1 : Slc} {a2 : Int} {b3 : Int} {n4 : Int} {cmp5 : Value} {w : World} {R R' : World → Prop} (h : C108 data1 a2 b3 n4 cmp5 w R) (hr : ∀ w', R w' → R' w') : C108 data1 a2 b3 n4 cmp5 w R' :=
  Calls.mono h fun _ _ ⟨he, hR⟩ => ⟨he, hr _ hR⟩
def C107 (data1 : Slc) (a2 : Int) (m3 : Int) (b4 : Int) (cmp5 : Value) (w : World) (R : World → Prop) : Prop :=
  Calls Tryd.prog 107 #[Slc.v data1, .int .i64 a2, .int .i64 m3, .int .i64 b4, cmp5] w fun e w' => e = .returned (.tuple #[]) ∧ R w'
theorem C107.mono {data1 : Slc} {a2 : Int} {m3 : Int} {b4 : Int} {cmp5 : Value} {w : World} {R R' : World → Prop} (h : C107 data1 a2 m3 b4 cmp5 w R) (hr : ∀ w', R w' → R' w') : C107 data1 a2 m3 b4 cmp5 w R' :=
  Calls.mono h fun _ _ ⟨he, hR⟩ => ⟨he, hr _ hR⟩
def C106 (data1 : Slc) (a2 : Int) (m3 : Int) (b4 : Int) (cmp5 : Value) (w : World) (R : World → Prop) : Prop :=
  Calls Tryd.prog 106 #[Slc.v data1, .int .i64 a2, .int .i64 m3, .int .i64 b4, cmp5] w fun e w' => e = .returned (.tuple #[]) ∧ R w'
theorem C106.mono {data1 : Slc} {a2 : Int} {m3 : Int} {b4 : Int} {cmp5 : Value} {w : World} {R R' : World → Prop} (h : C106 data1 a2 m3 b4 cmp5 w R) (hr : ∀ w', R w' → R' w') : C106 data1 a2 m3 b4 cmp5 w R' :=
  Calls.mono h fun _ _ ⟨he, hR⟩ => ⟨he, hr _ hR⟩
def C101 (data1 : Slc) (n2 : Int) (cmp3 : Value) (w : World) (R : World → Prop) : Prop :=
  Calls Tryd.prog 101 #[Slc.v data1, .int .i64 n2, cmp3] w fun e w' => e = .returned (.tuple #[]) ∧ R w'
theorem C101.mono {data1 : Slc} {n2 : Int} {cmp3 : Value} {w : World} {R R' : World → Prop} (h : C101 data1 n2 cmp3 w R) (hr : ∀ w', R w' → R' w') : C101 data1 n2 cmp3 w R' :=
  Calls.mono h fun _ _ ⟨he, hR⟩ => ⟨he, hr _ hR⟩
def C91 (x1 : Slc) (cmp2 : Value) (w : World) (R : World → Prop) : Prop :=
  Calls Tryd.prog 91 #[Slc.v x1, cmp2] w fun e w' => e = .returned (.tuple #[]) ∧ R w'
theorem C91.mono {x1 : Slc} {cmp2 : Value} {w : World} {R R' : World → Prop} (h : C91 x1 cmp2 w R) (hr : ∀ w', R w' → R' w') : C91 x1 cmp2 w R' :=
  Calls.mono h fun _ _ ⟨he, hR⟩ => ⟨he, hr _ hR⟩
def C82 (a1 : Slc) (b2 : Slc) (weight3 : Value) (w : World) (R : Slc → World → Prop) (PR : Value → World → Prop) : Prop :=
  Calls Tryd.prog 82 #[Slc.v a1, Slc.v b2, weight3] w fun e w' => (∃ r0 : Slc, e = .returned (Slc.v r0) ∧ R r0 w') ∨ ∃ v, e = .panicked (onePanic v) ∧ PR v w'
theorem C82.mono {a1 : Slc} {b2 : Slc} {weight3 : Value} {w : World} {R R' : Slc → World → Prop} {PR PR' : Value → World → Prop} (h : C82 a1 b2 weight3 w R PR) (hr : ∀ r0 w', R r0 w' → R' r0 w') (hp : ∀ v w', PR v w' → PR' v w') : C82 a1 b2 weight3 w R' PR' :=
  Calls.mono h fun _ _ he => he.elim (fun ⟨r0, he, hR⟩ => .inl ⟨r0, he, hr _ _ hR⟩) fun ⟨v, he, hP⟩ => .inr ⟨v, he, hp _ _ hP⟩
def C64 (a1 : Slc) (b2 : Slc) (w : World) (R : Slc → World → Prop) (PR : Value → World → Prop) : Prop :=
  Calls Tryd.prog 64 #[Slc.v a1, Slc.v b2] w fun e w' => (∃ r0 : Slc, e = .returned (Slc.v r0) ∧ R r0 w') ∨ ∃ v, e = .panicked (onePanic v) ∧ PR v w'
theorem C64.mono {a1 : Slc} {b2 : Slc} {w : World} {R R' : Slc → World → Prop} {PR PR' : Value → World → Prop} (h : C64 a1 b2 w R PR) (hr : ∀ r0 w', R r0 w' → R' r0 w') (hp : ∀ v w', PR v w' → PR' v w') : C64 a1 b2 w R' PR' :=
  Calls.mono h fun _ _ he => he.elim (fun ⟨r0, he, hR⟩ => .inl ⟨r0, he, hr _ _ hR⟩) fun ⟨v, he, hP⟩ => .inr ⟨v, he, hp _ _ hP⟩
def C65 (l1 : Slc) (w : World) (R : Slc → World → Prop) : Prop :=
  Calls Tryd.prog 65 #[Slc.v l1] w fun e w' => ∃ r0 : Slc, e = .returned (Slc.v r0) ∧ R r0 w'
theorem C65.mono {l1 : Slc} {w : World} {R R' : Slc → World → Prop} (h : C65 l1 w R) (hr : ∀ r0 w', R r0 w' → R' r0 w') : C65 l1 w R' :=
  Calls.mono h fun _ _ ⟨r0, he, hR⟩ => ⟨r0, he, hr _ _ hR⟩
def C67 (sign1 : Int) (c2 : Addr) (w : World) (R : World → Prop) : Prop :=
  Calls Tryd.prog 67 #[.int .i64 sign1, .pointer (some c2)] w fun e w' => e = .returned (.tuple #[]) ∧ R w'
theorem C67.mono {sign1 : Int} {c2 : Addr} {w : World} {R R' : World → Prop} (h : C67 sign1 c2 w R) (hr : ∀ w', R w' → R' w') : C67 sign1 c2 w R' :=
  Calls.mono h fun _ _ ⟨he, hR⟩ => ⟨he, hr _ hR⟩
def C66 (c1 : Option Addr) (tell2 : Value) (w : World) (R : World → Prop) : Prop :=
  Calls Tryd.prog 66 #[.pointer c1, tell2] w fun e w' => e = .returned (.tuple #[]) ∧ R w'
theorem C66.mono {c1 : Option Addr} {tell2 : Value} {w : World} {R R' : World → Prop} (h : C66 c1 tell2 w R) (hr : ∀ w', R w' → R' w') : C66 c1 tell2 w R' :=
  Calls.mono h fun _ _ ⟨he, hR⟩ => ⟨he, hr _ hR⟩
def C44 (counts1 : Slc) (most2 : Int) (w : World) (R : Slc → Int → World → Prop) (PR : Value → World → Prop) : Prop :=
  Calls Tryd.prog 44 #[Slc.v counts1, .int .i64 most2] w fun e w' => (∃ r0 : Slc, ∃ r1 : Int, e = .returned (.tuple #[Slc.v r0, .int .i64 r1]) ∧ R r0 r1 w') ∨ ∃ v, e = .panicked (onePanic v) ∧ PR v w'
theorem C44.mono {counts1 : Slc} {most2 : Int} {w : World} {R R' : Slc → Int → World → Prop} {PR PR' : Value → World → Prop} (h : C44 counts1 most2 w R PR) (hr : ∀ r0 r1 w', R r0 r1 w' → R' r0 r1 w') (hp : ∀ v w', PR v w' → PR' v w') : C44 counts1 most2 w R' PR' :=
  Calls.mono h fun _ _ he => he.elim (fun ⟨r0, r1, he, hR⟩ => .inl ⟨r0, r1, he, hr _ _ _ hR⟩) fun ⟨v, he, hP⟩ => .inr ⟨v, he, hp _ _ hP⟩

/-- slices.Grow[[]*foliant/code.coin,*foliant/code.coin] -/
def S100 (s1 : Slc) (n2 : Int) (w : World) (R : Slc → World → Prop) (PR : Value → World → Prop) : Prop :=
  Br (decide (n2 < 0)) (PR (.iface 9 (.string ((⟨#[99, 97, 110, 110, 111, 116, 32, 98, 101, 32, 110, 101, 103, 97, 116, 105, 118, 101]⟩ : ByteArray)))) w) (Lt (IntKind.i64.wrap (n2 - (IntKind.i64.wrap (((s1.cap : Nat) : Int) - ((s1.len : Nat) : Int))))) fun (x3 : Int) =>
    Br (decide (x3 > 0)) (0 ≤ ((s1.cap : Nat) : Int) ∧ ((s1.cap : Nat) : Int) ≤ ((s1.cap : Nat) : Int) ∧ Rn Tryd.prog (Builtin.append_ #[111, 3] 111 #[Slc.v (s1.cut 1 0 ((((s1.cap : Nat) : Int)).toNat) s1.cap), .int .i64 x3]) w Slc.v fun (x4 : Slc) vw5 =>
      0 ≤ ((s1.len : Nat) : Int) ∧ ((s1.len : Nat) : Int) ≤ ((x4.cap : Nat) : Int) ∧ R (x4.cut 1 0 ((((s1.len : Nat) : Int)).toNat) x4.cap) vw5) (R s1 w))
def pl100 : Plan := (.seq (.reg .seq) (.seq (.seq (.reg .seq) (.cond (.reg .seq) .leaf)) (.seq (.seq (.reg .seq) (.seq (.reg .seq) (.cond (.reg .seq) .leaf))) (.seq (.reg .seq) .leaf))))
set_option maxRecDepth 100000 in
theorem T100 (s1 : Slc) (n2 : Int) (w : World) (R : Slc → World → Prop) (PR : Value → World → Prop) (h : S100 s1 n2 w R PR) : C100 s1 n2 w R PR := by
  have e : fnT Tryd.prog ⟨FF, MAY, PR⟩ pl100 Tryd.f100 [Slc.v s1, .int .i64 n2] w [(.one .slc)] (fun s w => R s w) = S100 s1 n2 w R PR := by kernel_rfl
  exact (fn_callsP okF okM Tryd.func100 (by kernel_rfl) (by kernel_rfl) (e.mpr h)).mono fun _ _ he => he.elim (fun ⟨s, he, hR⟩ => .inl ⟨s, he, hR⟩) .inr

def S90L1 (slices1 : Slc) (R : Slc → World → Prop) (I16 : (Slc × Int) → World → Prop) (s14 : Slc × Int) (vw15 : World) : Prop :=
  Br (decide (s14.2 < ((slices1.len : Nat) : Int))) (0 ≤ s14.2 ∧ s14.2 < (slices1.len : Nat) ∧ Nn slices1.p fun a17 =>
    Ld vw15 (a17.add ((s14.2).toNat * 1)) Slc.v fun (x18 : Slc) =>
    Rn Tryd.prog (Builtin.append_ #[111, 111] 111 #[Slc.v s14.1, Slc.v x18]) vw15 Slc.v fun (x19 : Slc) vw20 =>
    I16 (x19, IntKind.i64.wrap (s14.2 + 1)) vw20) (R s14.1 vw15)
def S90L2 (slices1 : Slc) (R : Slc → World → Prop) (PR : Value → World → Prop) (I9 : (Int × Int) → World → Prop) (s7 : Int × Int) (vw8 : World) : Prop :=
  Br (decide (s7.2 < ((slices1.len : Nat) : Int))) (0 ≤ s7.2 ∧ s7.2 < (slices1.len : Nat) ∧ Nn slices1.p fun a10 =>
    Ld vw8 (a10.add ((s7.2).toNat * 1)) Slc.v fun (x11 : Slc) =>
    Br (decide ((IntKind.i64.wrap (s7.1 + ((x11.len : Nat) : Int))) < 0)) (PR (.iface 9 (.string ((⟨#[108, 101, 110, 32, 111, 117, 116, 32, 111, 102, 32, 114, 97, 110, 103, 101]⟩ : ByteArray)))) vw8) (I9 (IntKind.i64.wrap (s7.1 + ((x11.len : Nat) : Int)), IntKind.i64.wrap (s7.2 + 1)) vw8)) (C100 (⟨none, 0, 0⟩ : Slc) s7.1 vw8 (fun r12 vw13 =>
      Lp (σ := Slc × Int) (S90L1 slices1 R) (r12, 0) vw13) PR)
/-- slices.Concat[[]*foliant/code.coin,*foliant/code.coin] -/
def S90 (slices1 : Slc) (w : World) (R : Slc → World → Prop) (PR : Value → World → Prop) : Prop :=
  Lp (σ := Int × Int) (S90L2 slices1 R PR) (0, 0) w
def pl90 : Plan := (.seq (.reg .seq) (.seq (.reg .seq) (.seq (.seq (.reg .seq) (.block (.loop [(3, (.one (.int .i64))), (11, (.one (.int .i64)))] [0, 9, 10] (.seq (.reg .seq) (.seq (.cond .leaf .leaf) (.seq (.block (.seq (.reg .seq) (.seq (.reg .seq) (.seq (.reg .seq) (.cond (.reg .seq) .leaf))))) (.reg .seq))))))) (.seq (.reg .seq) (.seq (.seq (.reg .seq) (.block (.loop [(6, (.one .slc)), (27, (.one (.int .i64)))] [25, 26] (.seq (.reg .seq) (.seq (.cond .leaf .leaf) (.seq (.block (.seq (.reg .seq) (.reg .seq))) (.reg .seq))))))) (.seq (.reg .seq) .leaf))))))
set_option maxRecDepth 100000 in
theorem T90 (slices1 : Slc) (w : World) (R : Slc → World → Prop) (PR : Value → World → Prop) (h : S90 slices1 w R PR) : C90 slices1 w R PR := by
  have e : fnT Tryd.prog ⟨FF, MAY, PR⟩ pl90 Tryd.f90 [Slc.v slices1] w [(.one .slc)] (fun s w => R s w) = S90 slices1 w R PR := by kernel_rfl
  exact (fn_callsP okF okM Tryd.func90 (by kernel_rfl) (by kernel_rfl) (e.mpr h)).mono fun _ _ he => he.elim (fun ⟨s, he, hR⟩ => .inl ⟨s, he, hR⟩) .inr

def S105_F92L1 (data1 : Slc) (a2 : Int) (c5 : Addr) (s6 : Int) (I8 : Int → World → Prop) (I11 : Int → World → Prop) (s9 : Int) (vw10 : World) : Prop :=
  Br (decide (s9 > a2)) (0 ≤ s9 ∧ s9 < (data1.len : Nat) ∧ Nn data1.p fun a18 =>
    Ld vw10.drew (a18.add ((s9).toNat * 1)) Value.pointer fun (x19 : Option Addr) =>
    0 ≤ (IntKind.i64.wrap (s9 - 1)) ∧ (IntKind.i64.wrap (s9 - 1)) < (data1.len : Nat) ∧ Nn data1.p fun a20 =>
    Ld vw10.drew (a20.add ((IntKind.i64.wrap (s9 - 1)).toNat * 1)) Value.pointer fun (x21 : Option Addr) =>
    C92 x19 x21 c5 vw10.drew fun r22 vw23 =>
      Br (decide (r22 < 0)) (∃ vS24 : World → Prop, vS24 vw23.drew ∧ 0 ≤ (IntKind.i64.wrap (s9 - 1)) ∧ (IntKind.i64.wrap (s9 - 1)) < (data1.len : Nat) ∧ Nn data1.p fun a25 =>
        LdS vS24 (a25.add ((IntKind.i64.wrap (s9 - 1)).toNat * 1)) Value.pointer fun (x26 : Option Addr) =>
        0 ≤ s9 ∧ s9 < (data1.len : Nat) ∧ Nn data1.p fun a27 =>
        LdS vS24 (a27.add ((s9).toNat * 1)) Value.pointer fun (x28 : Option Addr) =>
        0 ≤ s9 ∧ s9 < (data1.len : Nat) ∧ Nn data1.p fun a29 =>
        St vw23.drew (a29.add ((s9).toNat * 1)) (.pointer x26) fun vw30 =>
        0 ≤ (IntKind.i64.wrap (s9 - 1)) ∧ (IntKind.i64.wrap (s9 - 1)) < (data1.len : Nat) ∧ Nn data1.p fun a31 =>
        St vw30 (a31.add ((IntKind.i64.wrap (s9 - 1)).toNat * 1)) (.pointer x28) fun vw32 =>
        I11 (IntKind.i64.wrap (s9 - 1)) vw32) (I8 (IntKind.i64.wrap (s6 + 1)) vw23)) (I8 (IntKind.i64.wrap (s6 + 1)) vw10.drew)
def S105_F92L2 (data1 : Slc) (a2 : Int) (b3 : Int) (c5 : Addr) (R : World → Prop) (I8 : Int → World → Prop) (s6 : Int) (vw7 : World) : Prop :=
  Br (decide (s6 < b3)) (Lp (σ := Int) (S105_F92L1 data1 a2 c5 s6 I8) s6 vw7) (R vw7)
/-- slices.insertionSortCmpFunc[*foliant/code.coin] -/
def S105_F92 (data1 : Slc) (a2 : Int) (b3 : Int) (c5 : Addr) (w : World) (R : World → Prop) : Prop :=
  Lp (σ := Int) (S105_F92L2 data1 a2 b3 c5 R) (IntKind.i64.wrap (a2 + 1)) w
def pl105_F92 : Plan := (.seq (.reg .seq) (.block (.loop [(8, (.one (.int .i64)))] [0, 1, 2, 3] (.seq (.seq (.reg .seq) (.cond .leaf .leaf)) (.seq (.block (.seq (.reg .seq) (.block (.loop [(9, (.one (.int .i64)))] [0, 1, 2, 3, 8] (.seq (.seq (.reg (.tail 14)) (.cond .leaf .leaf)) (.seq (.block (.reg (.held [15] (.take 0 (.take 1 (.take 2 (.take 3 (.take 4 (.take 5 (.take 6 (.take 7 (.take 8 (.take 9 (.take 10 (.take 11 (.take 12 (.take 13 (.take 14 (.eff 15 (some [17]) (.take 16 (.eff 17 (some []) .done))))))))))))))))))))) (.reg .seq))))))) (.reg .seq))))))
set_option maxRecDepth 100000 in
theorem T105_F92 (data1 : Slc) (a2 : Int) (b3 : Int) (c5 : Addr) (w : World) (R : World → Prop) (h : S105_F92 data1 a2 b3 c5 w R) : C105 data1 a2 b3 (.func (.func 92) #[] #[.pointer (some c5)]) w R := by
  have e : fnT Tryd.prog ⟨FF, MAY, (fun _ _ => False)⟩ pl105_F92 Tryd.f105 [Slc.v data1, .int .i64 a2, .int .i64 b3, .func (.func 92) #[] #[.pointer (some c5)]] w [] (fun _ w => R w) = S105_F92 data1 a2 b3 c5 w R := by kernel_rfl
  exact (fn_calls okF okM Tryd.func105 (by kernel_rfl) (by kernel_rfl) (e.mpr h)).mono fun _ _ ⟨_, he, hR⟩ => ⟨he, hR⟩

def S108L1 (data1 : Slc) (a2 : Int) (b3 : Int) (n4 : Int) (R : World → Prop) (I8 : Int → World → Prop) (s6 : Int) (vw7 : World) : Prop :=
  Br (decide (s6 < n4)) (∃ vS9 : World → Prop, vS9 vw7.drew ∧ 0 ≤ (IntKind.i64.wrap (b3 + s6)) ∧ (IntKind.i64.wrap (b3 + s6)) < (data1.len : Nat) ∧ Nn data1.p fun a10 =>
    LdS vS9 (a10.add ((IntKind.i64.wrap (b3 + s6)).toNat * 1)) Value.pointer fun (x11 : Option Addr) =>
    0 ≤ (IntKind.i64.wrap (a2 + s6)) ∧ (IntKind.i64.wrap (a2 + s6)) < (data1.len : Nat) ∧ Nn data1.p fun a12 =>
    LdS vS9 (a12.add ((IntKind.i64.wrap (a2 + s6)).toNat * 1)) Value.pointer fun (x13 : Option Addr) =>
    0 ≤ (IntKind.i64.wrap (a2 + s6)) ∧ (IntKind.i64.wrap (a2 + s6)) < (data1.len : Nat) ∧ Nn data1.p fun a14 =>
    St vw7.drew (a14.add ((IntKind.i64.wrap (a2 + s6)).toNat * 1)) (.pointer x11) fun vw15 =>
    0 ≤ (IntKind.i64.wrap (b3 + s6)) ∧ (IntKind.i64.wrap (b3 + s6)) < (data1.len : Nat) ∧ Nn data1.p fun a16 =>
    St vw15 (a16.add ((IntKind.i64.wrap (b3 + s6)).toNat * 1)) (.pointer x13) fun vw17 =>
    I8 (IntKind.i64.wrap (s6 + 1)) vw17) (R vw7)
/-- slices.swapRangeCmpFunc[*foliant/code.coin] -/
def S108 (data1 : Slc) (a2 : Int) (b3 : Int) (n4 : Int) (cmp5 : Value) (w : World) (R : World → Prop) : Prop :=
  Lp (σ := Int) (S108L1 data1 a2 b3 n4 R) 0 w
def pl108 : Plan := (.seq (.reg .seq) (.block (.loop [(10, (.one (.int .i64)))] [0, 1, 2, 3] (.seq (.seq (.reg .seq) (.cond .leaf .leaf)) (.seq (.block (.reg (.held [21] (.take 0 (.take 1 (.take 2 (.take 3 (.take 4 (.take 5 (.take 6 (.take 7 (.take 8 (.take 9 (.take 10 (.take 11 (.take 12 (.take 13 (.take 14 (.take 15 (.take 16 (.take 17 (.take 18 (.take 19 (.take 20 (.eff 21 (some [23]) (.take 22 (.eff 23 (some []) .done))))))))))))))))))))))))))) (.reg .seq))))))
set_option maxRecDepth 100000 in
theorem T108 (data1 : Slc) (a2 : Int) (b3 : Int) (n4 : Int) (cmp5 : Value) (w : World) (R : World → Prop) (h : S108 data1 a2 b3 n4 cmp5 w R) : C108 data1 a2 b3 n4 cmp5 w R := by
  have e : fnT Tryd.prog ⟨FF, MAY, (fun _ _ => False)⟩ pl108 Tryd.f108 [Slc.v data1, .int .i64 a2, .int .i64 b3, .int .i64 n4, cmp5] w [] (fun _ w => R w) = S108 data1 a2 b3 n4 cmp5 w R := by kernel_rfl
  exact (fn_calls okF okM Tryd.func108 (by kernel_rfl) (by kernel_rfl) (e.mpr h)).mono fun _ _ ⟨_, he, hR⟩ => ⟨he, hR⟩

def S107L1 (data1 : Slc) (m3 : Int) (cmp5 : Value) (R : World → Prop) (I13 : (Int × Int) → World → Prop) (s11 : Int × Int) (vw12 : World) : Prop :=
  Br (s11.1 != s11.2) (Br (decide (s11.1 > s11.2)) (C108 data1 (IntKind.i64.wrap (m3 - s11.1)) m3 s11.2 cmp5 vw12 fun vw14 =>
        I13 (IntKind.i64.wrap (s11.1 - s11.2), s11.2) vw14) (C108 data1 (IntKind.i64.wrap (m3 - s11.1)) (IntKind.i64.wrap ((IntKind.i64.wrap (m3 + s11.2)) - s11.1)) s11.1 cmp5 vw12 fun vw15 =>
        I13 (s11.1, IntKind.i64.wrap (s11.2 - s11.1)) vw15)) (C108 data1 (IntKind.i64.wrap (m3 - s11.1)) m3 s11.1 cmp5 vw12 fun vw16 =>
      R vw16)
/-- slices.rotateCmpFunc[*foliant/code.coin] -/
def S107 (data1 : Slc) (a2 : Int) (m3 : Int) (b4 : Int) (cmp5 : Value) (w : World) (R : World → Prop) : Prop :=
  Lp (σ := Int × Int) (S107L1 data1 m3 cmp5 R) (IntKind.i64.wrap (m3 - a2), IntKind.i64.wrap (b4 - m3)) w
def pl107 : Plan := (.seq (.reg .seq) (.seq (.reg .seq) (.seq (.block (.loop [(10, (.one (.int .i64))), (11, (.one (.int .i64)))] [0, 2, 4] (.seq (.seq (.reg .seq) (.cond .leaf .leaf)) (.block (.seq (.reg .seq) (.cond (.seq (.reg .seq) (.reg .seq)) (.seq (.reg .seq) (.reg .seq)))))))) (.reg .seq))))
set_option maxRecDepth 100000 in
theorem T107 (data1 : Slc) (a2 : Int) (m3 : Int) (b4 : Int) (cmp5 : Value) (w : World) (R : World → Prop) (h : S107 data1 a2 m3 b4 cmp5 w R) : C107 data1 a2 m3 b4 cmp5 w R := by
  have e : fnT Tryd.prog ⟨FF, MAY, (fun _ _ => False)⟩ pl107 Tryd.f107 [Slc.v data1, .int .i64 a2, .int .i64 m3, .int .i64 b4, cmp5] w [] (fun _ w => R w) = S107 data1 a2 m3 b4 cmp5 w R := by kernel_rfl
  exact (fn_calls okF okM Tryd.func107 (by kernel_rfl) (by kernel_rfl) (e.mpr h)).mono fun _ _ ⟨_, he, hR⟩ => ⟨he, hR⟩

def S106_F92L1 (data1 : Slc) (s39 : Int × Int) (R : World → Prop) (I51 : Int → World → Prop) (s49 : Int) (vw50 : World) : Prop :=
  Br (decide (s49 < (IntKind.i64.wrap (s39.1 - 1)))) (∃ vS52 : World → Prop, vS52 vw50.drew ∧ 0 ≤ (IntKind.i64.wrap (s49 + 1)) ∧ (IntKind.i64.wrap (s49 + 1)) < (data1.len : Nat) ∧ Nn data1.p fun a53 =>
    LdS vS52 (a53.add ((IntKind.i64.wrap (s49 + 1)).toNat * 1)) Value.pointer fun (x54 : Option Addr) =>
    0 ≤ s49 ∧ s49 < (data1.len : Nat) ∧ Nn data1.p fun a55 =>
    LdS vS52 (a55.add ((s49).toNat * 1)) Value.pointer fun (x56 : Option Addr) =>
    0 ≤ s49 ∧ s49 < (data1.len : Nat) ∧ Nn data1.p fun a57 =>
    St vw50.drew (a57.add ((s49).toNat * 1)) (.pointer x54) fun vw58 =>
    0 ≤ (IntKind.i64.wrap (s49 + 1)) ∧ (IntKind.i64.wrap (s49 + 1)) < (data1.len : Nat) ∧ Nn data1.p fun a59 =>
    St vw58 (a59.add ((IntKind.i64.wrap (s49 + 1)).toNat * 1)) (.pointer x56) fun vw60 =>
    I51 (IntKind.i64.wrap (s49 + 1)) vw60) (R vw50)
def S106_F92L2 (data1 : Slc) (a2 : Int) (c6 : Addr) (R : World → Prop) (I41 : (Int × Int) → World → Prop) (s39 : Int × Int) (vw40 : World) : Prop :=
  Br (decide (s39.1 < s39.2)) (0 ≤ (IntKind.i64.wrap (Int.fdiv (IntKind.u64.wrap (IntKind.i64.wrap (s39.1 + s39.2))) (2 ^ 1))) ∧ (IntKind.i64.wrap (Int.fdiv (IntKind.u64.wrap (IntKind.i64.wrap (s39.1 + s39.2))) (2 ^ 1))) < (data1.len : Nat) ∧ Nn data1.p fun a42 =>
    Ld vw40.drew (a42.add ((IntKind.i64.wrap (Int.fdiv (IntKind.u64.wrap (IntKind.i64.wrap (s39.1 + s39.2))) (2 ^ 1))).toNat * 1)) Value.pointer fun (x43 : Option Addr) =>
    0 ≤ a2 ∧ a2 < (data1.len : Nat) ∧ Nn data1.p fun a44 =>
    Ld vw40.drew (a44.add ((a2).toNat * 1)) Value.pointer fun (x45 : Option Addr) =>
    C92 x43 x45 c6 vw40.drew fun r46 vw47 =>
      Br (decide (r46 < 0)) (Lt (IntKind.i64.wrap ((IntKind.i64.wrap (Int.fdiv (IntKind.u64.wrap (IntKind.i64.wrap (s39.1 + s39.2))) (2 ^ 1))) + 1)) fun (x48 : Int) =>
        I41 (x48, s39.2) vw47) (I41 (s39.1, IntKind.i64.wrap (Int.fdiv (IntKind.u64.wrap (IntKind.i64.wrap (s39.1 + s39.2))) (2 ^ 1))) vw47)) (Lp (σ := Int) (S106_F92L1 data1 s39 R) a2 vw40)
def S106_F92L3 (data1 : Slc) (s93 : Int × Int) (R : World → Prop) (I105 : Int → World → Prop) (s103 : Int) (vw104 : World) : Prop :=
  Br (decide (s103 > s93.1)) (∃ vS106 : World → Prop, vS106 vw104.drew ∧ 0 ≤ (IntKind.i64.wrap (s103 - 1)) ∧ (IntKind.i64.wrap (s103 - 1)) < (data1.len : Nat) ∧ Nn data1.p fun a107 =>
    LdS vS106 (a107.add ((IntKind.i64.wrap (s103 - 1)).toNat * 1)) Value.pointer fun (x108 : Option Addr) =>
    0 ≤ s103 ∧ s103 < (data1.len : Nat) ∧ Nn data1.p fun a109 =>
    LdS vS106 (a109.add ((s103).toNat * 1)) Value.pointer fun (x110 : Option Addr) =>
    0 ≤ s103 ∧ s103 < (data1.len : Nat) ∧ Nn data1.p fun a111 =>
    St vw104.drew (a111.add ((s103).toNat * 1)) (.pointer x108) fun vw112 =>
    0 ≤ (IntKind.i64.wrap (s103 - 1)) ∧ (IntKind.i64.wrap (s103 - 1)) < (data1.len : Nat) ∧ Nn data1.p fun a113 =>
    St vw112 (a113.add ((IntKind.i64.wrap (s103 - 1)).toNat * 1)) (.pointer x110) fun vw114 =>
    I105 (IntKind.i64.wrap (s103 - 1)) vw114) (R vw104)
def S106_F92L4 (data1 : Slc) (m3 : Int) (c6 : Addr) (R : World → Prop) (I95 : (Int × Int) → World → Prop) (s93 : Int × Int) (vw94 : World) : Prop :=
  Br (decide (s93.1 < s93.2)) (0 ≤ m3 ∧ m3 < (data1.len : Nat) ∧ Nn data1.p fun a96 =>
    Ld vw94.drew (a96.add ((m3).toNat * 1)) Value.pointer fun (x97 : Option Addr) =>
    0 ≤ (IntKind.i64.wrap (Int.fdiv (IntKind.u64.wrap (IntKind.i64.wrap (s93.1 + s93.2))) (2 ^ 1))) ∧ (IntKind.i64.wrap (Int.fdiv (IntKind.u64.wrap (IntKind.i64.wrap (s93.1 + s93.2))) (2 ^ 1))) < (data1.len : Nat) ∧ Nn data1.p fun a98 =>
    Ld vw94.drew (a98.add ((IntKind.i64.wrap (Int.fdiv (IntKind.u64.wrap (IntKind.i64.wrap (s93.1 + s93.2))) (2 ^ 1))).toNat * 1)) Value.pointer fun (x99 : Option Addr) =>
    C92 x97 x99 c6 vw94.drew fun r100 vw101 =>
      Br (!(decide (r100 < 0))) (Lt (IntKind.i64.wrap ((IntKind.i64.wrap (Int.fdiv (IntKind.u64.wrap (IntKind.i64.wrap (s93.1 + s93.2))) (2 ^ 1))) + 1)) fun (x102 : Int) =>
        I95 (x102, s93.2) vw101) (I95 (s93.1, IntKind.i64.wrap (Int.fdiv (IntKind.u64.wrap (IntKind.i64.wrap (s93.1 + s93.2))) (2 ^ 1))) vw101)) (Lp (σ := Int) (S106_F92L3 data1 s93 R) m3 vw94)
def S106_F92J1 (data1 : Slc) (a2 : Int) (b4 : Int) (c6 : Addr) (x115 : Int) (s129 : Int × Int) (R : World → Prop) (s144 : Unit) (vw145 : World) : Prop :=
  Lt (decide ((IntKind.i64.wrap (Int.fdiv (IntKind.u64.wrap (IntKind.i64.wrap (a2 + b4))) (2 ^ 1))) < (IntKind.i64.wrap (x115 - s129.1)))) fun (x146 : Bool) =>
  Br x146 (Br (decide ((IntKind.i64.wrap (x115 - s129.1)) < b4)) (C106 data1 (IntKind.i64.wrap (Int.fdiv (IntKind.u64.wrap (IntKind.i64.wrap (a2 + b4))) (2 ^ 1))) (IntKind.i64.wrap (x115 - s129.1)) b4 (.func (.func 92) #[] #[.pointer (some c6)]) vw145 fun vw147 =>
        R vw147) (R vw145)) (R vw145)
def S106_F92J2 (data1 : Slc) (a2 : Int) (b4 : Int) (c6 : Addr) (x115 : Int) (s129 : Int × Int) (R : World → Prop) (s140 : Unit) (vw141 : World) : Prop :=
  Join (S106_F92J1 data1 a2 b4 c6 x115 s129 R) fun (vJ148 : Unit → World → Prop) =>
    Br (decide (a2 < s129.1)) (Lt (decide (s129.1 < (IntKind.i64.wrap (Int.fdiv (IntKind.u64.wrap (IntKind.i64.wrap (a2 + b4))) (2 ^ 1))))) fun (x149 : Bool) =>
      Br x149 (C106 data1 a2 s129.1 (IntKind.i64.wrap (Int.fdiv (IntKind.u64.wrap (IntKind.i64.wrap (a2 + b4))) (2 ^ 1))) (.func (.func 92) #[] #[.pointer (some c6)]) vw141 fun vw150 =>
          vJ148 () vw150) (vJ148 () vw141)) (vJ148 () vw141)
def S106_F92L5 (data1 : Slc) (a2 : Int) (m3 : Int) (b4 : Int) (c6 : Addr) (x115 : Int) (R : World → Prop) (I131 : (Int × Int) → World → Prop) (s129 : Int × Int) (vw130 : World) : Prop :=
  Br (decide (s129.1 < s129.2)) (Lt (IntKind.i64.wrap (Int.fdiv (IntKind.u64.wrap (IntKind.i64.wrap (s129.1 + s129.2))) (2 ^ 1))) fun (x132 : Int) =>
    0 ≤ (IntKind.i64.wrap ((IntKind.i64.wrap (x115 - 1)) - x132)) ∧ (IntKind.i64.wrap ((IntKind.i64.wrap (x115 - 1)) - x132)) < (data1.len : Nat) ∧ Nn data1.p fun a133 =>
    Ld vw130.drew (a133.add ((IntKind.i64.wrap ((IntKind.i64.wrap (x115 - 1)) - x132)).toNat * 1)) Value.pointer fun (x134 : Option Addr) =>
    0 ≤ x132 ∧ x132 < (data1.len : Nat) ∧ Nn data1.p fun a135 =>
    Ld vw130.drew (a135.add ((x132).toNat * 1)) Value.pointer fun (x136 : Option Addr) =>
    C92 x134 x136 c6 vw130.drew fun r137 vw138 =>
      Br (!(decide (r137 < 0))) (I131 (IntKind.i64.wrap (x132 + 1), s129.2) vw138) (I131 (s129.1, x132) vw138)) (Join (S106_F92J2 data1 a2 b4 c6 x115 s129 R) fun (vJ151 : Unit → World → Prop) =>
      Br (decide (s129.1 < m3)) (Br (decide (m3 < (IntKind.i64.wrap (x115 - s129.1)))) (C107 data1 s129.1 m3 (IntKind.i64.wrap (x115 - s129.1)) (.func (.func 92) #[] #[.pointer (some c6)]) vw130 fun vw152 =>
            vJ151 () vw152) (vJ151 () vw130)) (vJ151 () vw130))
def S106_F92J3 (data1 : Slc) (a2 : Int) (m3 : Int) (b4 : Int) (c6 : Addr) (x115 : Int) (R : World → Prop) (s117 : Int × Int) (vw118 : World) : Prop :=
  Lp (σ := Int × Int) (S106_F92L5 data1 a2 m3 b4 c6 x115 R) (s117.1, s117.2) vw118
/-- slices.symMergeCmpFunc[*foliant/code.coin] -/
def S106_F92 (data1 : Slc) (a2 : Int) (m3 : Int) (b4 : Int) (c6 : Addr) (w : World) (R : World → Prop) : Prop :=
  Br ((IntKind.i64.wrap (m3 - a2)) == 1) (Lp (σ := Int × Int) (S106_F92L2 data1 a2 c6 R) (m3, b4) w) (Br ((IntKind.i64.wrap (b4 - m3)) == 1) (Lp (σ := Int × Int) (S106_F92L4 data1 m3 c6 R) (a2, m3) w) (Lt (IntKind.i64.wrap ((IntKind.i64.wrap (Int.fdiv (IntKind.u64.wrap (IntKind.i64.wrap (a2 + b4))) (2 ^ 1))) + m3)) fun (x115 : Int) =>
      Join (S106_F92J3 data1 a2 m3 b4 c6 x115 R) fun (vJ153 : (Int × Int) → World → Prop) =>
        Lt (decide (m3 > (IntKind.i64.wrap (Int.fdiv (IntKind.u64.wrap (IntKind.i64.wrap (a2 + b4))) (2 ^ 1))))) fun (x154 : Bool) =>
        Br x154 (vJ153 (IntKind.i64.wrap (x115 - b4), IntKind.i64.wrap (Int.fdiv (IntKind.u64.wrap (IntKind.i64.wrap (a2 + b4))) (2 ^ 1))) w) (vJ153 (a2, m3) w)))
def pl106_F92 : Plan := (.seq (.seq (.reg .seq) (.cond (.seq (.reg .seq) (.seq (.reg .seq) (.seq (.block (.loop [(10, (.one (.int .i64))), (11, (.one (.int .i64)))] [0, 1, 4] (.seq (.seq (.reg .seq) (.cond .leaf .leaf)) (.block (.seq (.reg .seq) (.seq (.reg (.tail 9)) (.cond (.reg .seq) (.reg .seq)))))))) (.seq (.seq (.reg .seq) (.block (.loop [(13, (.one (.int .i64)))] [0, 10] (.seq (.seq (.reg .seq) (.cond .leaf .leaf)) (.seq (.block (.reg (.held [15] (.take 0 (.take 1 (.take 2 (.take 3 (.take 4 (.take 5 (.take 6 (.take 7 (.take 8 (.take 9 (.take 10 (.take 11 (.take 12 (.take 13 (.take 14 (.eff 15 (some [17]) (.take 16 (.eff 17 (some []) .done))))))))))))))))))))) (.reg .seq)))))) .leaf)))) .leaf)) (.seq (.seq (.reg .seq) (.cond (.seq (.reg .seq) (.seq (.reg .seq) (.seq (.block (.loop [(14, (.one (.int .i64))), (15, (.one (.int .i64)))] [0, 2, 4] (.seq (.seq (.reg .seq) (.cond .leaf .leaf)) (.block (.seq (.reg .seq) (.seq (.reg (.tail 9)) (.cond (.reg .seq) (.reg .seq)))))))) (.seq (.seq (.reg .seq) (.block (.loop [(17, (.one (.int .i64)))] [0, 14] (.seq (.seq (.reg .seq) (.cond .leaf .leaf)) (.seq (.block (.reg (.held [15] (.take 0 (.take 1 (.take 2 (.take 3 (.take 4 (.take 5 (.take 6 (.take 7 (.take 8 (.take 9 (.take 10 (.take 11 (.take 12 (.take 13 (.take 14 (.eff 15 (some [17]) (.take 16 (.eff 17 (some []) .done))))))))))))))))))))) (.reg .seq)))))) .leaf)))) .leaf)) (.seq (.reg .seq) (.seq (.reg .seq) (.seq (.reg .seq) (.join [(20, (.one (.int .i64))), (21, (.one (.int .i64)))] [0, 1, 2, 3, 4, 18, 19] (.seq (.reg .seq) (.cond (.seq (.reg .seq) (.reg .seq)) (.seq (.reg .seq) (.reg .seq)))) (.seq (.reg .seq) (.seq (.block (.loop [(20, (.one (.int .i64))), (21, (.one (.int .i64)))] [0, 1, 2, 3, 4, 18, 19, 22] (.seq (.seq (.reg .seq) (.cond .leaf .leaf)) (.block (.seq (.reg .seq) (.seq (.reg (.tail 11)) (.cond (.reg .seq) (.reg .seq)))))))) (.seq (.reg .seq) (.join [] [0, 1, 3, 4, 18, 20, 24] (.seq (.reg .seq) (.cond (.reg .seq) .leaf)) (.join [] [0, 3, 4, 18, 24] (.seq (.reg .seq) (.cond (.reg .seq) .leaf)) (.seq (.reg .seq) (.cond (.reg .seq) .leaf)))))))))))))
set_option maxRecDepth 100000 in
theorem T106_F92 (data1 : Slc) (a2 : Int) (m3 : Int) (b4 : Int) (c6 : Addr) (w : World) (R : World → Prop) (h : S106_F92 data1 a2 m3 b4 c6 w R) : C106 data1 a2 m3 b4 (.func (.func 92) #[] #[.pointer (some c6)]) w R := by
  have e : fnT Tryd.prog ⟨FF, MAY, (fun _ _ => False)⟩ pl106_F92 Tryd.f106 [Slc.v data1, .int .i64 a2, .int .i64 m3, .int .i64 b4, .func (.func 92) #[] #[.pointer (some c6)]] w [] (fun _ w => R w) = S106_F92 data1 a2 m3 b4 c6 w R := by kernel_rfl
  exact (fn_calls okF okM Tryd.func106 (by kernel_rfl) (by kernel_rfl) (e.mpr h)).mono fun _ _ ⟨_, he, hR⟩ => ⟨he, hR⟩

def S101_F92L1 (data1 : Slc) (n2 : Int) (c4 : Addr) (s14 : Int) (I16 : Int → World → Prop) (I23 : (Int × Int) → World → Prop) (s21 : Int × Int) (vw22 : World) : Prop :=
  Br (decide (s21.2 ≤ n2)) (C106 data1 s21.1 (IntKind.i64.wrap (s21.1 + s14)) s21.2 (.func (.func 92) #[] #[.pointer (some c4)]) vw22 fun vw24 =>
      I23 (s21.2, IntKind.i64.wrap (s21.2 + (IntKind.i64.wrap (2 * s14)))) vw24) (Br (decide ((IntKind.i64.wrap (s21.1 + s14)) < n2)) (C106 data1 s21.1 (IntKind.i64.wrap (s21.1 + s14)) n2 (.func (.func 92) #[] #[.pointer (some c4)]) vw22 fun vw25 =>
        I16 (IntKind.i64.wrap (s14 * 2)) vw25) (I16 (IntKind.i64.wrap (s14 * 2)) vw22))
def S101_F92L2 (data1 : Slc) (n2 : Int) (c4 : Addr) (R : World → Prop) (I16 : Int → World → Prop) (s14 : Int) (vw15 : World) : Prop :=
  Br (decide (s14 < n2)) (Lp (σ := Int × Int) (S101_F92L1 data1 n2 c4 s14 I16) (0, IntKind.i64.wrap (2 * s14)) vw15) (R vw15)
def S101_F92L3 (data1 : Slc) (n2 : Int) (c4 : Addr) (R : World → Prop) (I11 : (Int × Int) → World → Prop) (s9 : Int × Int) (vw10 : World) : Prop :=
  Br (decide (s9.2 ≤ n2)) (C105 data1 s9.1 s9.2 (.func (.func 92) #[] #[.pointer (some c4)]) vw10 fun vw12 =>
      I11 (s9.2, IntKind.i64.wrap (s9.2 + 20)) vw12) (C105 data1 s9.1 n2 (.func (.func 92) #[] #[.pointer (some c4)]) vw10 fun vw13 =>
      Lp (σ := Int) (S101_F92L2 data1 n2 c4 R) 20 vw13)
/-- slices.stableCmpFunc[*foliant/code.coin] -/
def S101_F92 (data1 : Slc) (n2 : Int) (c4 : Addr) (w : World) (R : World → Prop) : Prop :=
  Lp (σ := Int × Int) (S101_F92L3 data1 n2 c4 R) (0, 20) w
def pl101_F92 : Plan := (.seq (.reg .seq) (.seq (.reg .seq) (.seq (.block (.loop [(7, (.one (.int .i64))), (8, (.one (.int .i64)))] [0, 1, 2, 6] (.seq (.seq (.reg .seq) (.cond .leaf .leaf)) (.block (.seq (.reg .seq) (.seq (.reg .seq) (.reg .seq))))))) (.seq (.reg .seq) (.block (.loop [(6, (.one (.int .i64)))] [0, 1, 2] (.seq (.seq (.reg .seq) (.cond .leaf .leaf)) (.block (.seq (.reg .seq) (.seq (.block (.loop [(7, (.one (.int .i64))), (8, (.one (.int .i64)))] [0, 1, 2, 6] (.seq (.seq (.reg .seq) (.cond .leaf .leaf)) (.block (.seq (.reg .seq) (.seq (.reg .seq) (.reg .seq))))))) (.seq (.seq (.reg .seq) (.seq (.reg .seq) (.cond (.reg .seq) .leaf))) (.reg .seq))))))))))))
set_option maxRecDepth 100000 in
theorem T101_F92 (data1 : Slc) (n2 : Int) (c4 : Addr) (w : World) (R : World → Prop) (h : S101_F92 data1 n2 c4 w R) : C101 data1 n2 (.func (.func 92) #[] #[.pointer (some c4)]) w R := by
  have e : fnT Tryd.prog ⟨FF, MAY, (fun _ _ => False)⟩ pl101_F92 Tryd.f101 [Slc.v data1, .int .i64 n2, .func (.func 92) #[] #[.pointer (some c4)]] w [] (fun _ w => R w) = S101_F92 data1 n2 c4 w R := by kernel_rfl
  exact (fn_calls okF okM Tryd.func101 (by kernel_rfl) (by kernel_rfl) (e.mpr h)).mono fun _ _ ⟨_, he, hR⟩ => ⟨he, hR⟩

/-- slices.SortStableFunc[[]*foliant/code.coin,*foliant/code.coin] -/
def S91_F92 (x1 : Slc) (c3 : Addr) (w : World) (R : World → Prop) : Prop :=
  C101 x1 ((x1.len : Nat) : Int) (.func (.func 92) #[] #[.pointer (some c3)]) w fun vw4 =>
    R vw4
def pl91_F92 : Plan := (.reg .seq)
set_option maxRecDepth 100000 in
theorem T91_F92 (x1 : Slc) (c3 : Addr) (w : World) (R : World → Prop) (h : S91_F92 x1 c3 w R) : C91 x1 (.func (.func 92) #[] #[.pointer (some c3)]) w R := by
  have e : fnT Tryd.prog ⟨FF, MAY, (fun _ _ => False)⟩ pl91_F92 Tryd.f91 [Slc.v x1, .func (.func 92) #[] #[.pointer (some c3)]] w [] (fun _ w => R w) = S91_F92 x1 c3 w R := by kernel_rfl
  exact (fn_calls okF okM Tryd.func91 (by kernel_rfl) (by kernel_rfl) (e.mpr h)).mono fun _ _ ⟨_, he, hR⟩ => ⟨he, hR⟩

/-- foliant/code.sorted[*foliant/code.coin] -/
def S82_F83 (a1 : Slc) (b2 : Slc) (w : World) (R : Slc → World → Prop) (PR : Value → World → Prop) : Prop :=
  Nw w (.cells #[.func (.func 83) #[] #[]] 136) fun vw4 =>
  Nw vw4 (.cells #[Slc.v a1, Slc.v b2] 111) fun vw5 =>
  C90 (⟨some ⟨vw4.heap.size, 0, none⟩, 2, 2⟩ : Slc) vw5 (fun r6 vw7 =>
    C91 r6 (.func (.func 92) #[] #[.pointer (some (⟨w.heap.size, 0, none⟩ : Addr))]) vw7 fun vw8 =>
      R r6 vw8) PR
def pl82_F83 : Plan := (.seq (.reg .seq) (.seq (.reg .seq) (.seq (.reg .seq) (.seq (.reg .seq) .leaf))))
set_option maxRecDepth 100000 in
theorem T82_F83 (a1 : Slc) (b2 : Slc) (w : World) (R : Slc → World → Prop) (PR : Value → World → Prop) (h : S82_F83 a1 b2 w R PR) : C82 a1 b2 (.func (.func 83) #[] #[]) w R PR := by
  have e : fnT Tryd.prog ⟨FF, MAY, PR⟩ pl82_F83 Tryd.f82 [Slc.v a1, Slc.v b2, .func (.func 83) #[] #[]] w [(.one .slc)] (fun s w => R s w) = S82_F83 a1 b2 w R PR := by kernel_rfl
  exact (fn_callsP okF okM Tryd.func82 (by kernel_rfl) (by kernel_rfl) (e.mpr h)).mono fun _ _ he => he.elim (fun ⟨s, he, hR⟩ => .inl ⟨s, he, hR⟩) .inr

/-- foliant/code.merged -/
def S64 (a1 : Slc) (b2 : Slc) (w : World) (R : Slc → World → Prop) (PR : Value → World → Prop) : Prop :=
  C82 a1 b2 (.func (.func 83) #[] #[]) w (fun r3 vw4 =>
    R r3 vw4) PR
def pl64 : Plan := (.seq (.reg .seq) (.seq (.reg .seq) .leaf))
set_option maxRecDepth 100000 in
theorem T64 (a1 : Slc) (b2 : Slc) (w : World) (R : Slc → World → Prop) (PR : Value → World → Prop) (h : S64 a1 b2 w R PR) : C64 a1 b2 w R PR := by
  have e : fnT Tryd.prog ⟨FF, MAY, PR⟩ pl64 Tryd.f64 [Slc.v a1, Slc.v b2] w [(.one .slc)] (fun s w => R s w) = S64 a1 b2 w R PR := by kernel_rfl
  exact (fn_callsP okF okM Tryd.func64 (by kernel_rfl) (by kernel_rfl) (e.mpr h)).mono fun _ _ he => he.elim (fun ⟨s, he, hR⟩ => .inl ⟨s, he, hR⟩) .inr

def S65L1 (l1 : Slc) (R : Slc → World → Prop) (I4 : (Slc × Int) → World → Prop) (s2 : Slc × Int) (vw3 : World) : Prop :=
  Br (decide ((IntKind.i64.wrap (s2.2 + 1)) < ((l1.len : Nat) : Int))) (∃ vS5 : World → Prop, vS5 vw3.drew ∧ 0 ≤ s2.2 ∧ s2.2 < (l1.len : Nat) ∧ Nn l1.p fun a6 =>
    LdS vS5 (a6.add ((s2.2).toNat * 1)) Value.pointer fun (x7 : Option Addr) =>
    Nn x7 fun a8 =>
    LdS vS5 a8 (Value.int .i64) fun (x9 : Int) =>
    0 ≤ (IntKind.i64.wrap (s2.2 + 1)) ∧ (IntKind.i64.wrap (s2.2 + 1)) < (l1.len : Nat) ∧ Nn l1.p fun a10 =>
    LdS vS5 (a10.add ((IntKind.i64.wrap (s2.2 + 1)).toNat * 1)) Value.pointer fun (x11 : Option Addr) =>
    Nn x11 fun a12 =>
    LdS vS5 a12 (Value.int .i64) fun (x13 : Int) =>
    0 ≤ s2.2 ∧ s2.2 < (l1.len : Nat) ∧ Nn l1.p fun a14 =>
    LdS vS5 (a14.add ((s2.2).toNat * 1)) Value.pointer fun (x15 : Option Addr) =>
    0 ≤ (IntKind.i64.wrap (s2.2 + 1)) ∧ (IntKind.i64.wrap (s2.2 + 1)) < (l1.len : Nat) ∧ Nn l1.p fun a16 =>
    LdS vS5 (a16.add ((IntKind.i64.wrap (s2.2 + 1)).toNat * 1)) Value.pointer fun (x17 : Option Addr) =>
    Nw vw3.drew (.cells #[.int .i64 (IntKind.i64.wrap (x9 + x13)), .int .i64 0, .pointer x15, .pointer x17] 114) fun vw18 =>
    Nw vw18 (.cells #[.pointer (some (⟨vw3.drew.heap.size, 0, none⟩ : Addr))] 112) fun vw19 =>
    Rn Tryd.prog (Builtin.append_ #[111, 111] 111 #[Slc.v s2.1, Slc.v ((⟨some ⟨vw18.heap.size, 0, none⟩, 1, 1⟩ : Slc))]) vw19 Slc.v fun (x20 : Slc) vw21 =>
    I4 (x20, IntKind.i64.wrap (s2.2 + 2)) vw21) (R s2.1 vw3)
/-- foliant/code.pairs -/
def S65 (l1 : Slc) (w : World) (R : Slc → World → Prop) : Prop :=
  Lp (σ := Slc × Int) (S65L1 l1 R) ((⟨none, 0, 0⟩ : Slc), 0) w
def pl65 : Plan := (.seq (.reg .seq) (.seq (.reg .seq) (.seq (.seq (.reg .seq) (.block (.loop [(3, (.one .slc)), (4, (.one (.int .i64)))] [0] (.seq (.seq (.reg .seq) (.cond .leaf .leaf)) (.seq (.block (.reg (.held [26] (.take 0 (.take 1 (.take 2 (.take 3 (.take 4 (.take 5 (.take 6 (.take 7 (.take 8 (.take 9 (.take 10 (.take 11 (.take 12 (.take 13 (.take 14 (.take 15 (.take 16 (.take 17 (.take 18 (.take 19 (.take 20 (.take 21 (.take 22 (.take 23 (.take 24 (.take 25 (.eff 26 (some [27]) (.eff 27 (some [28]) (.eff 28 (some [29]) (.eff 29 (some []) (.take 30 .done)))))))))))))))))))))))))))))))))) (.reg .seq)))))) (.seq (.reg .seq) .leaf))))
set_option maxRecDepth 100000 in
theorem T65 (l1 : Slc) (w : World) (R : Slc → World → Prop) (h : S65 l1 w R) : C65 l1 w R := by
  have e : fnT Tryd.prog ⟨FF, MAY, (fun _ _ => False)⟩ pl65 Tryd.f65 [Slc.v l1] w [(.one .slc)] (fun s w => R s w) = S65 l1 w R := by kernel_rfl
  exact (fn_calls okF okM Tryd.func65 (by kernel_rfl) (by kernel_rfl) (e.mpr h)).mono fun _ _ ⟨s, he, hR⟩ => ⟨s, he, hR⟩

/-- foliant/code.Lengths$1 -/
def S67 (sign1 : Int) (c2 : Addr) (w : World) (R : World → Prop) : Prop :=
  Ld w c2 Slc.v fun (x3 : Slc) =>
  0 ≤ sign1 ∧ sign1 < (x3.len : Nat) ∧ Nn x3.p fun a4 =>
  Ld w (a4.add ((sign1).toNat * 1)) (Value.int .i64) fun (x5 : Int) =>
  0 ≤ sign1 ∧ sign1 < (x3.len : Nat) ∧ Nn x3.p fun a6 =>
  St w (a6.add ((sign1).toNat * 1)) (.int .i64 (IntKind.i64.wrap (x5 + 1))) fun vw7 =>
  R vw7
def pl67 : Plan := (.reg .seq)
set_option maxRecDepth 100000 in
theorem T67 (sign1 : Int) (c2 : Addr) (w : World) (R : World → Prop) (h : S67 sign1 c2 w R) : C67 sign1 c2 w R := by
  have e : fnT Tryd.prog ⟨FF, MAY, (fun _ _ => False)⟩ pl67 Tryd.f67 [.int .i64 sign1, .pointer (some c2)] w [] (fun _ w => R w) = S67 sign1 c2 w R := by kernel_rfl
  exact (fn_calls okF okM Tryd.func67 (by kernel_rfl) (by kernel_rfl) (e.mpr h)).mono fun _ _ ⟨_, he, hR⟩ => ⟨he, hR⟩

/-- (*foliant/code.coin).each -/
def S66_F67 (c1 : Option Addr) (c3 : Addr) (w : World) (R : World → Prop) : Prop :=
  Nn c1 fun a9 =>
  Ld w (a9.add 2) Value.pointer fun (x10 : Option Addr) =>
  Br x10.isNone (Nn c1 fun a11 =>
    Ld w (a11.add 1) (Value.int .i64) fun (x12 : Int) =>
    C67 x12 c3 w fun vw13 =>
      R vw13) (Nn c1 fun a14 =>
    Ld w (a14.add 2) Value.pointer fun (x15 : Option Addr) =>
    C66 x15 (.func (.func 67) #[] #[.pointer (some c3)]) w fun vw16 =>
      Nn c1 fun a17 =>
      Ld vw16 (a17.add 3) Value.pointer fun (x18 : Option Addr) =>
      C66 x18 (.func (.func 67) #[] #[.pointer (some c3)]) vw16 fun vw19 =>
        R vw19)
def pl66_F67 : Plan := (.seq (.seq (.reg .seq) (.cond (.seq (.reg .seq) .leaf) .leaf)) (.seq (.reg .seq) (.reg .seq)))
set_option maxRecDepth 100000 in
theorem T66_F67 (c1 : Option Addr) (c3 : Addr) (w : World) (R : World → Prop) (h : S66_F67 c1 c3 w R) : C66 c1 (.func (.func 67) #[] #[.pointer (some c3)]) w R := by
  have e : fnT Tryd.prog ⟨FF, MAY, (fun _ _ => False)⟩ pl66_F67 Tryd.f66 [.pointer c1, .func (.func 67) #[] #[.pointer (some c3)]] w [] (fun _ w => R w) = S66_F67 c1 c3 w R := by kernel_rfl
  exact (fn_calls okF okM Tryd.func66 (by kernel_rfl) (by kernel_rfl) (e.mpr h)).mono fun _ _ ⟨_, he, hR⟩ => ⟨he, hR⟩

def S44L1 (vw22 : World) (r36 : Slc) (s45 : Slc × Int) (x52 : Int) (R : Slc → Int → World → Prop) (I55 : Int → World → Prop) (s53 : Int) (vw54 : World) : Prop :=
  Br (decide (s53 < x52)) (0 ≤ s53 ∧ s53 < ((s45.1.cut 1 0 ((IntKind.i64.wrap ((IntKind.i64.wrap (2 * ((r36.len : Nat) : Int))) - 2)).toNat) s45.1.cap).len : Nat) ∧ Nn (s45.1.cut 1 0 ((IntKind.i64.wrap ((IntKind.i64.wrap (2 * ((r36.len : Nat) : Int))) - 2)).toNat) s45.1.cap).p fun a56 =>
    Ld vw54 (a56.add ((s53).toNat * 1)) Value.pointer fun (x57 : Option Addr) =>
    C66 x57 (.func (.func 67) #[] #[.pointer (some (⟨vw22.heap.size, 0, none⟩ : Addr))]) vw54 fun vw58 =>
      I55 (IntKind.i64.wrap (s53 + 1)) vw58) (Ld vw54 (⟨vw22.heap.size, 0, none⟩ : Addr) Slc.v fun (x59 : Slc) =>
    R x59 0 vw54)
def S44L2 (most2 : Int) (vw22 : World) (r36 : Slc) (R : Slc → Int → World → Prop) (PR : Value → World → Prop) (I47 : (Slc × Int) → World → Prop) (s45 : Slc × Int) (vw46 : World) : Prop :=
  Br (decide (s45.2 < (IntKind.i64.wrap (most2 - 1)))) (C65 s45.1 vw46 fun r48 vw49 =>
      C64 r36 r48 vw49 (fun r50 vw51 =>
        I47 (r50, IntKind.i64.wrap (s45.2 + 1)) vw51) PR) (0 ≤ (IntKind.i64.wrap ((IntKind.i64.wrap (2 * ((r36.len : Nat) : Int))) - 2)) ∧ (IntKind.i64.wrap ((IntKind.i64.wrap (2 * ((r36.len : Nat) : Int))) - 2)) ≤ ((s45.1.cap : Nat) : Int) ∧ Lt ((((s45.1.cut 1 0 ((IntKind.i64.wrap ((IntKind.i64.wrap (2 * ((r36.len : Nat) : Int))) - 2)).toNat) s45.1.cap).len : Nat) : Int)) fun (x52 : Int) =>
    Lp (σ := Int) (S44L1 vw22 r36 s45 x52 R) 0 vw46)
def S44J1 (most2 : Int) (s12 : Slc × Int) (vw22 : World) (R : Slc → Int → World → Prop) (PR : Value → World → Prop) (s32 : Unit) (vw33 : World) : Prop :=
  Br (decide (((s12.1.len : Nat) : Int) < 2)) (Ld vw33 (⟨vw22.heap.size, 0, none⟩ : Addr) Slc.v fun (x35 : Slc) =>
    R x35 0 vw33) (C64 s12.1 (⟨none, 0, 0⟩ : Slc) vw33 (fun r36 vw37 =>
      Lp (σ := Slc × Int) (S44L2 most2 vw22 r36 R PR) (r36, 0) vw37) PR)
def S44L3 (counts1 : Slc) (most2 : Int) (R : Slc → Int → World → Prop) (PR : Value → World → Prop) (I14 : (Slc × Int) → World → Prop) (s12 : Slc × Int) (vw13 : World) : Prop :=
  Br (decide (s12.2 < ((counts1.len : Nat) : Int))) (0 ≤ s12.2 ∧ s12.2 < (counts1.len : Nat) ∧ Nn counts1.p fun a15 =>
    Ld vw13 (a15.add ((s12.2).toNat * 1)) (Value.int .i64) fun (x16 : Int) =>
    Br (decide (x16 < 0)) (R (⟨none, 0, 0⟩ : Slc) 1 vw13) (Br (decide (x16 > 2147483647)) (R (⟨none, 0, 0⟩ : Slc) 1 vw13) (Br (decide (x16 > 0)) (Nw vw13 (.cells #[.int .i64 x16, .int .i64 (s12.2), .pointer none, .pointer none] 114) fun vw17 =>
          Nw vw17 (.cells #[.pointer (some (⟨vw13.heap.size, 0, none⟩ : Addr))] 112) fun vw18 =>
          Rn Tryd.prog (Builtin.append_ #[111, 111] 111 #[Slc.v s12.1, Slc.v ((⟨some ⟨vw17.heap.size, 0, none⟩, 1, 1⟩ : Slc))]) vw18 Slc.v fun (x19 : Slc) vw20 =>
          I14 (x19, IntKind.i64.wrap (s12.2 + 1)) vw20) (I14 (s12.1, IntKind.i64.wrap (s12.2 + 1)) vw13)))) (0 ≤ most2 ∧ Br (decide (((s12.1.len : Nat) : Int) > (IntKind.i64.wrap (1 * 2 ^ (min (most2).toNat 64))))) (R (⟨none, 0, 0⟩ : Slc) 13 vw13) (Rn Tryd.prog (Instr.makeSlice 69 (.int .i64 ((counts1.len : Nat) : Int)) (.int .i64 ((counts1.len : Nat) : Int))) vw13 Slc.v fun (x21 : Slc) vw22 =>
      Nw vw22 (.cells #[Slc.v ((⟨none, 0, 0⟩ : Slc))] 69) fun vw23 =>
      St vw23 (⟨vw22.heap.size, 0, none⟩ : Addr) (Slc.v x21) fun vw24 =>
      Join (S44J1 most2 s12 vw22 R PR) fun (vJ60 : Unit → World → Prop) =>
        Br (((s12.1.len : Nat) : Int) == 1) (Ld vw24.drew (⟨vw22.heap.size, 0, none⟩ : Addr) Slc.v fun (x61 : Slc) =>
          0 ≤ (0 : Int) ∧ (0 : Int) < (s12.1.len : Nat) ∧ Nn s12.1.p fun a62 =>
          Ld vw24.drew (a62.add (((0 : Int)).toNat * 1)) Value.pointer fun (x63 : Option Addr) =>
          Nn x63 fun a64 =>
          Ld vw24.drew (a64.add 1) (Value.int .i64) fun (x65 : Int) =>
          0 ≤ x65 ∧ x65 < (x61.len : Nat) ∧ Nn x61.p fun a66 =>
          St vw24.drew (a66.add ((x65).toNat * 1)) (.int .i64 1) fun vw67 =>
          vJ60 () vw67) (vJ60 () vw24)))
/-- foliant/code.Lengths -/
def S44 (counts1 : Slc) (most2 : Int) (w : World) (R : Slc → Int → World → Prop) (PR : Value → World → Prop) : Prop :=
  Br (decide (((counts1.len : Nat) : Int) > 288)) (R (⟨none, 0, 0⟩ : Slc) 6 w) (Br (decide (most2 < 1)) (R (⟨none, 0, 0⟩ : Slc) 1 w) (Br (decide (most2 > 15)) (R (⟨none, 0, 0⟩ : Slc) 1 w) (Lp (σ := Slc × Int) (S44L3 counts1 most2 R PR) ((⟨none, 0, 0⟩ : Slc), 0) w)))
def pl44 : Plan := (.seq (.reg .seq) (.seq (.seq (.reg .seq) (.cond (.seq (.reg .seq) .leaf) .leaf)) (.seq (.seq (.reg .seq) (.cond (.seq (.reg .seq) .leaf) .leaf)) (.seq (.reg .seq) (.seq (.seq (.reg .seq) (.block (.loop [(6, (.one .slc)), (24, (.one (.int .i64)))] [0, 1, 22, 23] (.seq (.reg .seq) (.seq (.cond .leaf .leaf) (.seq (.block (.seq (.reg .seq) (.seq (.seq (.reg .seq) (.cond (.seq (.reg .seq) .leaf) .leaf)) (.seq (.reg .seq) (.cond (.reg .seq) .leaf))))) (.reg .seq))))))) (.seq (.seq (.reg .seq) (.cond (.seq (.reg .seq) .leaf) .leaf)) (.seq (.reg .seq) (.join [] [1, 6, 9] (.seq (.reg .seq) (.cond (.reg (.tail 8)) .leaf)) (.seq (.seq (.reg .seq) (.cond (.seq (.reg .seq) .leaf) .leaf)) (.seq (.reg .seq) (.seq (.reg .seq) (.seq (.seq (.reg .seq) (.block (.loop [(10, (.one .slc)), (73, (.one (.int .i64)))] [6, 9, 72] (.seq (.reg .seq) (.seq (.cond .leaf .leaf) (.seq (.block (.reg .seq)) (.reg .seq))))))) (.seq (.seq (.reg .seq) (.block (.loop [(87, (.one (.int .i64)))] [9, 85, 86] (.seq (.reg .seq) (.seq (.cond .leaf .leaf) (.seq (.block (.seq (.reg .seq) (.reg .seq))) (.reg .seq))))))) (.seq (.reg .seq) .leaf))))))))))))))
set_option maxRecDepth 100000 in
theorem T44 (counts1 : Slc) (most2 : Int) (w : World) (R : Slc → Int → World → Prop) (PR : Value → World → Prop) (h : S44 counts1 most2 w R PR) : C44 counts1 most2 w R PR := by
  have e : fnT Tryd.prog ⟨FF, MAY, PR⟩ pl44 Tryd.f44 [Slc.v counts1, .int .i64 most2] w [(.one .slc), (.one (.int .i64))] (fun s w => R s.1 s.2 w) = S44 counts1 most2 w R PR := by kernel_rfl
  exact (fn_callsP okF okM Tryd.func44 (by kernel_rfl) (by kernel_rfl) (e.mpr h)).mono fun _ _ he => he.elim (fun ⟨s, he, hR⟩ => .inl ⟨s.1, s.2, he, hR⟩) .inr

end Go.Proofs.YtjkoafjnmkchdaaDoor

/- The formulas of 10 functions of the program, written by program (gen.py); the kernel checks each. No condition. -/
namespace Go.Proofs.YtjkoafjnmkchdaaDoor
open Sh
set_option linter.unusedVariables false
set_option maxRecDepth 100000

def C81 (n1 : Int) (ones2 : Int) (group3 : Int) (w : World) (R : Int → Int → Int → World → Prop) : Prop :=
  Calls Tryd.prog 81 #[.int .i64 n1, .int .i64 ones2, .int .i64 group3] w fun e w' => ∃ r0 : Int, ∃ r1 : Int, ∃ r2 : Int, e = .returned (.tuple #[.int .i64 r0, .int .i64 r1, .int .i64 r2]) ∧ R r0 r1 r2 w'
theorem C81.mono {n1 : Int} {ones2 : Int} {group3 : Int} {w : World} {R R' : Int → Int → Int → World → Prop} (h : C81 n1 ones2 group3 w R) (hr : ∀ r0 r1 r2 w', R r0 r1 r2 w' → R' r0 r1 r2 w') : C81 n1 ones2 group3 w R' :=
  Calls.mono h fun _ _ ⟨r0, r1, r2, he, hR⟩ => ⟨r0, r1, r2, he, hr _ _ _ _ hR⟩
def C62 (size1 : Int) (w : World) (R : Int → Int → Int → Int → World → Prop) : Prop :=
  Calls Tryd.prog 62 #[.int .i64 size1] w fun e w' => ∃ r0 : Int, ∃ r1 : Int, ∃ r2 : Int, ∃ r3 : Int, e = .returned (.tuple #[.int .i64 r0, .int .i64 r1, .int .i64 r2, .int .i64 r3]) ∧ R r0 r1 r2 r3 w'
theorem C62.mono {size1 : Int} {w : World} {R R' : Int → Int → Int → Int → World → Prop} (h : C62 size1 w R) (hr : ∀ r0 r1 r2 r3 w', R r0 r1 r2 r3 w' → R' r0 r1 r2 r3 w') : C62 size1 w R' :=
  Calls.mono h fun _ _ ⟨r0, r1, r2, r3, he, hR⟩ => ⟨r0, r1, r2, r3, he, hr _ _ _ _ _ hR⟩
def C63 (far1 : Int) (w : World) (R : Int → Int → Int → Int → World → Prop) : Prop :=
  Calls Tryd.prog 63 #[.int .i64 far1] w fun e w' => ∃ r0 : Int, ∃ r1 : Int, ∃ r2 : Int, ∃ r3 : Int, e = .returned (.tuple #[.int .i64 r0, .int .i64 r1, .int .i64 r2, .int .i64 r3]) ∧ R r0 r1 r2 r3 w'
theorem C63.mono {far1 : Int} {w : World} {R R' : Int → Int → Int → Int → World → Prop} (h : C63 far1 w R) (hr : ∀ r0 r1 r2 r3 w', R r0 r1 r2 r3 w' → R' r0 r1 r2 r3 w') : C63 far1 w R' :=
  Calls.mono h fun _ _ ⟨r0, r1, r2, r3, he, hR⟩ => ⟨r0, r1, r2, r3, he, hr _ _ _ _ _ hR⟩
def C34 (p1 : Int × Int × Int) (w : World) (R : Bool → World → Prop) : Prop :=
  Calls Tryd.prog 34 #[.agg #[.int .u8 (p1.1), .int .i64 (p1.2.1), .int .i64 (p1.2.2)]] w fun e w' => ∃ r0 : Bool, e = .returned (.bool r0) ∧ R r0 w'
theorem C34.mono {p1 : Int × Int × Int} {w : World} {R R' : Bool → World → Prop} (h : C34 p1 w R) (hr : ∀ r0 w', R r0 w' → R' r0 w') : C34 p1 w R' :=
  Calls.mono h fun _ _ ⟨r0, he, hR⟩ => ⟨r0, he, hr _ _ hR⟩
def C19 (l1 : Slc) (w : World) (R : ByteArray → Int → World → Prop) : Prop :=
  Calls Tryd.prog 19 #[Slc.v l1] w fun e w' => ∃ r0 : ByteArray, ∃ r1 : Int, e = .returned (.tuple #[.string r0, .int .i64 r1]) ∧ R r0 r1 w'
theorem C19.mono {l1 : Slc} {w : World} {R R' : ByteArray → Int → World → Prop} (h : C19 l1 w R) (hr : ∀ r0 r1 w', R r0 r1 w' → R' r0 r1 w') : C19 l1 w R' :=
  Calls.mono h fun _ _ ⟨r0, r1, he, hR⟩ => ⟨r0, r1, he, hr _ _ _ hR⟩
def C54 (s1 : ByteArray) (a2 : Int) (b3 : Int) (most4 : Int) (w : World) (R : Int → World → Prop) : Prop :=
  Calls Tryd.prog 54 #[.string s1, .int .i64 a2, .int .i64 b3, .int .i64 most4] w fun e w' => ∃ r0 : Int, e = .returned (.int .i64 r0) ∧ R r0 w'
theorem C54.mono {s1 : ByteArray} {a2 : Int} {b3 : Int} {most4 : Int} {w : World} {R R' : Int → World → Prop} (h : C54 s1 a2 b3 most4 w R) (hr : ∀ r0 w', R r0 w' → R' r0 w') : C54 s1 a2 b3 most4 w R' :=
  Calls.mono h fun _ _ ⟨r0, he, hR⟩ => ⟨r0, he, hr _ _ hR⟩
def C32 (t1 : Option Nat) (s2 : ByteArray) (vat3 : Int) (w : World) (R : (Int × Int × Int) → World → Prop) : Prop :=
  Calls Tryd.prog 32 #[.map t1, .string s2, .int .i64 vat3] w fun e w' => ∃ r0 : Int × Int × Int, e = .returned (.agg #[.int .u8 (r0.1), .int .i64 (r0.2.1), .int .i64 (r0.2.2)]) ∧ R r0 w'
theorem C32.mono {t1 : Option Nat} {s2 : ByteArray} {vat3 : Int} {w : World} {R R' : (Int × Int × Int) → World → Prop} (h : C32 t1 s2 vat3 w R) (hr : ∀ r0 w', R r0 w' → R' r0 w') : C32 t1 s2 vat3 w R' :=
  Calls.mono h fun _ _ ⟨r0, he, hR⟩ => ⟨r0, he, hr _ _ hR⟩
def C33 (t1 : Option Nat) (s2 : ByteArray) (vfrom3 : Int) (to4 : Int) (w : World) (R : World → Prop) : Prop :=
  Calls Tryd.prog 33 #[.map t1, .string s2, .int .i64 vfrom3, .int .i64 to4] w fun e w' => e = .returned (.tuple #[]) ∧ R w'
theorem C33.mono {t1 : Option Nat} {s2 : ByteArray} {vfrom3 : Int} {to4 : Int} {w : World} {R R' : World → Prop} (h : C33 t1 s2 vfrom3 to4 w R) (hr : ∀ w', R w' → R' w') : C33 t1 s2 vfrom3 to4 w R' :=
  Calls.mono h fun _ _ ⟨he, hR⟩ => ⟨he, hr _ hR⟩
def C18 (s1 : ByteArray) (w : World) (R : Slc → World → Prop) : Prop :=
  Calls Tryd.prog 18 #[.string s1] w fun e w' => ∃ r0 : Slc, e = .returned (Slc.v r0) ∧ R r0 w'
theorem C18.mono {s1 : ByteArray} {w : World} {R R' : Slc → World → Prop} (h : C18 s1 w R) (hr : ∀ r0 w', R r0 w' → R' r0 w') : C18 s1 w R' :=
  Calls.mono h fun _ _ ⟨r0, he, hR⟩ => ⟨r0, he, hr _ _ hR⟩
def C22 (s1 : ByteArray) (w : World) (R : ByteArray → World → Prop) : Prop :=
  Calls Tryd.prog 22 #[.string s1] w fun e w' => ∃ r0 : ByteArray, e = .returned (.string r0) ∧ R r0 w'
theorem C22.mono {s1 : ByteArray} {w : World} {R R' : ByteArray → World → Prop} (h : C22 s1 w R) (hr : ∀ r0 w', R r0 w' → R' r0 w') : C22 s1 w R' :=
  Calls.mono h fun _ _ ⟨r0, he, hR⟩ => ⟨r0, he, hr _ _ hR⟩

def S81L1 (group3 : Int) (R : Int → Int → Int → World → Prop) (I9 : (Int × Int × Int) → World → Prop) (s7 : Int × Int × Int) (vw8 : World) : Prop :=
  0 ≤ s7.2.2 ∧ Br (decide (s7.1 ≥ (IntKind.i64.wrap (group3 * 2 ^ (min (s7.2.2).toNat 64))))) (0 ≤ s7.2.2 ∧ I9 (IntKind.i64.wrap (s7.1 - (IntKind.i64.wrap (group3 * 2 ^ (min (s7.2.2).toNat 64)))), IntKind.i64.wrap (s7.2.1 + group3), IntKind.i64.wrap (s7.2.2 + 1)) vw8) (0 ≤ s7.2.2 ∧ 0 ≤ s7.2.2 ∧ Lt (iand .i64 s7.1 (IntKind.i64.wrap ((IntKind.i64.wrap (1 * 2 ^ (min (s7.2.2).toNat 64))) - 1))) fun (x10 : Int) =>
    R (IntKind.i64.wrap (s7.2.1 + (Int.fdiv s7.1 (2 ^ (min (s7.2.2).toNat 64))))) x10 s7.2.2 vw8.drew)
/-- foliant/deflate.said -/
def S81 (n1 : Int) (ones2 : Int) (group3 : Int) (w : World) (R : Int → Int → Int → World → Prop) : Prop :=
  Br (decide (n1 < ones2)) (R n1 0 0 w) (Lp (σ := Int × Int × Int) (S81L1 group3 R) (IntKind.i64.wrap (n1 - ones2), ones2, 1) w)
def pl81 : Plan := (.seq (.reg .seq) (.seq (.seq (.reg .seq) (.cond (.seq (.reg .seq) .leaf) .leaf)) (.seq (.reg .seq) (.seq (.seq (.reg .seq) (.block (.loop [(0, (.one (.int .i64))), (6, (.one (.int .i64))), (8, (.one (.int .i64)))] [2] (.seq (.seq (.reg .seq) (.cond .leaf .leaf)) (.seq (.block (.reg .seq)) (.reg .seq)))))) (.seq (.reg .still) .leaf)))))
set_option maxRecDepth 100000 in
theorem T81 (n1 : Int) (ones2 : Int) (group3 : Int) (w : World) (R : Int → Int → Int → World → Prop) (h : S81 n1 ones2 group3 w R) : C81 n1 ones2 group3 w R := by
  have e : fnT Tryd.prog ⟨FF, MAY, (fun _ _ => False)⟩ pl81 Tryd.f81 [.int .i64 n1, .int .i64 ones2, .int .i64 group3] w [(.one (.int .i64)), (.one (.int .i64)), (.one (.int .i64))] (fun s w => R s.1 s.2.1 s.2.2 w) = S81 n1 ones2 group3 w R := by kernel_rfl
  exact (fn_calls okF okM Tryd.func81 (by kernel_rfl) (by kernel_rfl) (e.mpr h)).mono fun _ _ ⟨s, he, hR⟩ => ⟨s.1, s.2.1, s.2.2, he, hR⟩

/-- foliant/deflate.Sign -/
def S62 (size1 : Int) (w : World) (R : Int → Int → Int → Int → World → Prop) : Prop :=
  Br (decide (size1 < 3)) (R 0 0 0 1 w) (Br (decide (size1 > 258)) (R 0 0 0 1 w) (Br (size1 == 258) (R 285 0 0 0 w) (C81 (IntKind.i64.wrap (size1 - 3)) 8 4 w fun r2 r3 r4 vw5 =>
          R (IntKind.i64.wrap (257 + r2)) r3 r4 0 vw5)))
def pl62 : Plan := (.seq (.reg .seq) (.seq (.block (.seq (.reg .seq) (.cond (.seq (.reg .seq) .leaf) (.seq (.reg .seq) (.cond (.seq (.reg .seq) .leaf) .leaf))))) (.seq (.reg .seq) (.seq (.reg .seq) .leaf))))
set_option maxRecDepth 100000 in
theorem T62 (size1 : Int) (w : World) (R : Int → Int → Int → Int → World → Prop) (h : S62 size1 w R) : C62 size1 w R := by
  have e : fnT Tryd.prog ⟨FF, MAY, (fun _ _ => False)⟩ pl62 Tryd.f62 [.int .i64 size1] w [(.one (.int .i64)), (.one (.int .i64)), (.one (.int .i64)), (.one (.int .i64))] (fun s w => R s.1 s.2.1 s.2.2.1 s.2.2.2 w) = S62 size1 w R := by kernel_rfl
  exact (fn_calls okF okM Tryd.func62 (by kernel_rfl) (by kernel_rfl) (e.mpr h)).mono fun _ _ ⟨s, he, hR⟩ => ⟨s.1, s.2.1, s.2.2.1, s.2.2.2, he, hR⟩

/-- foliant/deflate.Back -/
def S63 (far1 : Int) (w : World) (R : Int → Int → Int → Int → World → Prop) : Prop :=
  Br (decide (far1 < 1)) (R 0 0 0 1 w) (Br (decide (far1 > 32768)) (R 0 0 0 1 w) (C81 (IntKind.i64.wrap (far1 - 1)) 4 2 w fun r2 r3 r4 vw5 =>
        R r2 r3 r4 0 vw5))
def pl63 : Plan := (.seq (.reg .seq) (.seq (.seq (.reg .seq) (.cond (.seq (.reg .seq) .leaf) .leaf)) (.seq (.reg .seq) (.seq (.reg .seq) .leaf))))
set_option maxRecDepth 100000 in
theorem T63 (far1 : Int) (w : World) (R : Int → Int → Int → Int → World → Prop) (h : S63 far1 w R) : C63 far1 w R := by
  have e : fnT Tryd.prog ⟨FF, MAY, (fun _ _ => False)⟩ pl63 Tryd.f63 [.int .i64 far1] w [(.one (.int .i64)), (.one (.int .i64)), (.one (.int .i64)), (.one (.int .i64))] (fun s w => R s.1 s.2.1 s.2.2.1 s.2.2.2 w) = S63 far1 w R := by kernel_rfl
  exact (fn_calls okF okM Tryd.func63 (by kernel_rfl) (by kernel_rfl) (e.mpr h)).mono fun _ _ ⟨s, he, hR⟩ => ⟨s.1, s.2.1, s.2.2.1, s.2.2.2, he, hR⟩

/-- foliant/deflate.may -/
def S34 (p1 : Int × Int × Int) (w : World) (R : Bool → World → Prop) : Prop :=
  Nw w (.cells #[.int .u8 (p1.1), .int .i64 (p1.2.1), .int .i64 (p1.2.2)] 40) fun vw2 =>
  Ld vw2 ((⟨w.heap.size, 0, none⟩ : Addr).add 1) (Value.int .i64) fun (x5 : Int) =>
  Br (x5 == 0) (Ld vw2 ((⟨w.heap.size, 0, none⟩ : Addr).add 2) (Value.int .i64) fun (x6 : Int) =>
    R (x6 == 0) vw2) (Ld vw2 (⟨w.heap.size, 0, none⟩ : Addr) (Value.int .u8) fun (x7 : Int) =>
    Br (x7 == 0) (Ld vw2 ((⟨w.heap.size, 0, none⟩ : Addr).add 1) (Value.int .i64) fun (x8 : Int) =>
      Br (decide (x8 ≥ 3)) (Ld vw2 ((⟨w.heap.size, 0, none⟩ : Addr).add 1) (Value.int .i64) fun (x9 : Int) =>
        Br (decide (x9 ≤ 258)) (Ld vw2 ((⟨w.heap.size, 0, none⟩ : Addr).add 2) (Value.int .i64) fun (x10 : Int) =>
          Br (decide (x10 ≥ 1)) (Ld vw2 ((⟨w.heap.size, 0, none⟩ : Addr).add 2) (Value.int .i64) fun (x11 : Int) =>
            R (decide (x11 ≤ 32768)) vw2) (R false vw2)) (R false vw2)) (R false vw2)) (R false vw2))
def pl34 : Plan := (.seq (.reg .seq) (.seq (.seq (.reg .seq) (.cond (.seq (.reg .seq) .leaf) .leaf)) (.seq (.reg .seq) .leaf)))
set_option maxRecDepth 100000 in
theorem T34 (p1 : Int × Int × Int) (w : World) (R : Bool → World → Prop) (h : S34 p1 w R) : C34 (p1.1, p1.2.1, p1.2.2) w R := by
  have e : fnT Tryd.prog ⟨FF, MAY, (fun _ _ => False)⟩ pl34 Tryd.f34 [.agg #[.int .u8 (p1.1), .int .i64 (p1.2.1), .int .i64 (p1.2.2)]] w [(.one .bool)] (fun s w => R s w) = S34 p1 w R := by kernel_rfl
  exact (fn_calls okF okM Tryd.func34 (by kernel_rfl) (by kernel_rfl) (e.mpr h)).mono fun _ _ ⟨s, he, hR⟩ => ⟨s, he, hR⟩

def S19L1 (s2 : Slc × Int) (vw3 : World) (I4 : (Slc × Int) → World → Prop) (x39 : Int) (I42 : (Slc × Int) → World → Prop) (s40 : Slc × Int) (vw41 : World) : Prop :=
  Br (decide (s40.2 < x39)) (Ld vw41 ((⟨vw3.heap.size, 0, none⟩ : Addr).add 2) (Value.int .i64) fun (x43 : Int) =>
    0 ≤ (IntKind.i64.wrap (((s40.1.len : Nat) : Int) - x43)) ∧ (IntKind.i64.wrap (((s40.1.len : Nat) : Int) - x43)) < (s40.1.len : Nat) ∧ Nn s40.1.p fun a44 =>
    Ld vw41 (a44.add ((IntKind.i64.wrap (((s40.1.len : Nat) : Int) - x43)).toNat * 1)) (Value.int .u8) fun (x45 : Int) =>
    Nw vw41 (.cells #[.int .u8 x45] 5) fun vw46 =>
    Rn Tryd.prog (Builtin.append_ #[32, 32] 32 #[Slc.v s40.1, Slc.v ((⟨some ⟨vw41.heap.size, 0, none⟩, 1, 1⟩ : Slc))]) vw46 Slc.v fun (x47 : Slc) vw48 =>
    I42 (x47, IntKind.i64.wrap (s40.2 + 1)) vw48) (I4 (s40.1, IntKind.i64.wrap (s2.2 + 1)) vw41)
def S19L2 (s2 : Slc × Int) (vw3 : World) (I4 : (Slc × Int) → World → Prop) (x49 : Int) (I52 : (Slc × Int) → World → Prop) (s50 : Slc × Int) (vw51 : World) : Prop :=
  Br (decide (s50.2 < x49)) (Ld vw51 ((⟨vw3.heap.size, 0, none⟩ : Addr).add 2) (Value.int .i64) fun (x53 : Int) =>
    0 ≤ (IntKind.i64.wrap (((s50.1.len : Nat) : Int) - x53)) ∧ (IntKind.i64.wrap (((s50.1.len : Nat) : Int) - x53)) < (s50.1.len : Nat) ∧ Nn s50.1.p fun a54 =>
    Ld vw51 (a54.add ((IntKind.i64.wrap (((s50.1.len : Nat) : Int) - x53)).toNat * 1)) (Value.int .u8) fun (x55 : Int) =>
    Nw vw51 (.cells #[.int .u8 x55] 5) fun vw56 =>
    Rn Tryd.prog (Builtin.append_ #[32, 32] 32 #[Slc.v s50.1, Slc.v ((⟨some ⟨vw51.heap.size, 0, none⟩, 1, 1⟩ : Slc))]) vw56 Slc.v fun (x57 : Slc) vw58 =>
    I52 (x57, IntKind.i64.wrap (s50.2 + 1)) vw58) (I4 (s50.1, IntKind.i64.wrap (s2.2 + 1)) vw51)
def S19L3 (l1 : Slc) (R : ByteArray → Int → World → Prop) (I4 : (Slc × Int) → World → Prop) (s2 : Slc × Int) (vw3 : World) : Prop :=
  Br (decide (s2.2 < ((l1.len : Nat) : Int))) (0 ≤ s2.2 ∧ s2.2 < (l1.len : Nat) ∧ Nn l1.p fun a5 =>
    Ld vw3 (a5.add ((s2.2).toNat * 3)) (Value.int .u8) fun (x6 : Int) =>
    Ld vw3 ((a5.add ((s2.2).toNat * 3)).add 1) (Value.int .i64) fun (x7 : Int) =>
    Ld vw3 ((a5.add ((s2.2).toNat * 3)).add 2) (Value.int .i64) fun (x8 : Int) =>
    Nw vw3 (.cells #[.int .u8 0, .int .i64 0, .int .i64 0] 40) fun vw9 =>
    St vw9 (⟨vw3.heap.size, 0, none⟩ : Addr) (.int .u8 x6) fun vw10 =>
    St vw10 ((⟨vw3.heap.size, 0, none⟩ : Addr).add 1) (.int .i64 x7) fun vw11 =>
    St vw11 ((⟨vw3.heap.size, 0, none⟩ : Addr).add 2) (.int .i64 x8) fun vw12 =>
    Ld vw12 (⟨vw3.heap.size, 0, none⟩ : Addr) (Value.int .u8) fun (x21 : Int) =>
    Ld vw12 ((⟨vw3.heap.size, 0, none⟩ : Addr).add 1) (Value.int .i64) fun (x22 : Int) =>
    Ld vw12 ((⟨vw3.heap.size, 0, none⟩ : Addr).add 2) (Value.int .i64) fun (x23 : Int) =>
    C34 (x21, x22, x23) vw12 fun r24 vw25 =>
      Br (!r24) (R (⟨#[]⟩ : ByteArray) 1 vw25) (Ld vw25 ((⟨vw3.heap.size, 0, none⟩ : Addr).add 2) (Value.int .i64) fun (x26 : Int) =>
        Br (decide (x26 > ((s2.1.len : Nat) : Int))) (R (⟨#[]⟩ : ByteArray) 14 vw25) (Ld vw25 ((⟨vw3.heap.size, 0, none⟩ : Addr).add 1) (Value.int .i64) fun (x27 : Int) =>
          Lt (decide ((IntKind.i64.wrap (((s2.1.len : Nat) : Int) + (if 1 > x27 then 1 else x27))) > 1048576)) fun (x28 : Bool) =>
          Br x28 (R (⟨#[]⟩ : ByteArray) 5 vw25) (Ld vw25 ((⟨vw3.heap.size, 0, none⟩ : Addr).add 1) (Value.int .i64) fun (x34 : Int) =>
            Br (x34 == 0) (Ld vw25 (⟨vw3.heap.size, 0, none⟩ : Addr) (Value.int .u8) fun (x35 : Int) =>
              Nw vw25 (.cells #[.int .u8 x35] 5) fun vw36 =>
              Rn Tryd.prog (Builtin.append_ #[32, 32] 32 #[Slc.v s2.1, Slc.v ((⟨some ⟨vw25.heap.size, 0, none⟩, 1, 1⟩ : Slc))]) vw36 Slc.v fun (x37 : Slc) vw38 =>
              Ld vw38 ((⟨vw3.heap.size, 0, none⟩ : Addr).add 1) (Value.int .i64) fun (x39 : Int) =>
              Lp (σ := Slc × Int) (S19L1 s2 vw3 I4 x39) (x37, 0) vw38) (Ld vw25 ((⟨vw3.heap.size, 0, none⟩ : Addr).add 1) (Value.int .i64) fun (x49 : Int) =>
              Lp (σ := Slc × Int) (S19L2 s2 vw3 I4 x49) (s2.1, 0) vw25))))) (Rn Tryd.prog (convert 32 9 (Slc.v s2.1)) vw3 Value.string fun (x59 : ByteArray) vw60 =>
    R x59 0 vw60)
/-- foliant/deflate.Unparts -/
def S19 (l1 : Slc) (w : World) (R : ByteArray → Int → World → Prop) : Prop :=
  Lp (σ := Slc × Int) (S19L3 l1 R) ((⟨none, 0, 0⟩ : Slc), 0) w
def pl19 : Plan := (.seq (.reg .seq) (.seq (.reg .seq) (.seq (.seq (.reg .seq) (.block (.loop [(4, (.one .slc)), (9, (.one (.int .i64)))] [7, 8] (.seq (.reg .seq) (.seq (.cond .leaf .leaf) (.seq (.block (.seq (.reg .seq) (.seq (.block (.seq (.reg .seq) (.cond (.seq (.reg .seq) .leaf) (.seq (.reg .seq) (.cond (.seq (.reg .seq) .leaf) (.seq (.reg .seq) (.cond (.seq (.reg .seq) .leaf) .leaf))))))) (.seq (.seq (.reg .seq) (.cond (.reg .seq) .leaf)) (.seq (.reg .seq) (.block (.loop [(4, (.one .slc)), (41, (.one (.int .i64)))] [6, 7, 8, 9, 40] (.seq (.reg .seq) (.seq (.cond .leaf .leaf) (.seq (.block (.reg .seq)) (.reg .seq))))))))))) (.reg .seq))))))) (.seq (.reg .seq) .leaf))))
set_option maxRecDepth 100000 in
theorem T19 (l1 : Slc) (w : World) (R : ByteArray → Int → World → Prop) (h : S19 l1 w R) : C19 l1 w R := by
  have e : fnT Tryd.prog ⟨FF, MAY, (fun _ _ => False)⟩ pl19 Tryd.f19 [Slc.v l1] w [(.one .str), (.one (.int .i64))] (fun s w => R s.1 s.2 w) = S19 l1 w R := by kernel_rfl
  exact (fn_calls okF okM Tryd.func19 (by kernel_rfl) (by kernel_rfl) (e.mpr h)).mono fun _ _ ⟨s, he, hR⟩ => ⟨s.1, s.2, he, hR⟩

def S54L1 (s1 : ByteArray) (a2 : Int) (b3 : Int) (most4 : Int) (R : Int → World → Prop) (I7 : Int → World → Prop) (s5 : Int) (vw6 : World) : Prop :=
  Br (decide (s5 < most4)) (0 ≤ (IntKind.i64.wrap (a2 + s5)) ∧ (IntKind.i64.wrap (a2 + s5)) < ((s1).size : Nat) ∧ 0 ≤ (IntKind.i64.wrap (b3 + s5)) ∧ (IntKind.i64.wrap (b3 + s5)) < ((s1).size : Nat) ∧ Br ((bAt s1 (IntKind.i64.wrap (a2 + s5))) == (bAt s1 (IntKind.i64.wrap (b3 + s5)))) (I7 (IntKind.i64.wrap (s5 + 1)) vw6.drew) (R s5 vw6.drew)) (R s5 vw6.drew)
/-- foliant/deflate.alike -/
def S54 (s1 : ByteArray) (a2 : Int) (b3 : Int) (most4 : Int) (w : World) (R : Int → World → Prop) : Prop :=
  Lp (σ := Int) (S54L1 s1 a2 b3 most4 R) 0 w
def pl54 : Plan := (.seq (.reg .seq) (.seq (.reg .seq) (.seq (.block (.loop [(9, (.one (.int .i64)))] [0, 1, 2, 3] (.seq (.seq (.reg .still) (.cond .leaf .leaf)) (.block (.reg .seq))))) (.seq (.reg .seq) .leaf))))
set_option maxRecDepth 100000 in
theorem T54 (s1 : ByteArray) (a2 : Int) (b3 : Int) (most4 : Int) (w : World) (R : Int → World → Prop) (h : S54 s1 a2 b3 most4 w R) : C54 s1 a2 b3 most4 w R := by
  have e : fnT Tryd.prog ⟨FF, MAY, (fun _ _ => False)⟩ pl54 Tryd.f54 [.string s1, .int .i64 a2, .int .i64 b3, .int .i64 most4] w [(.one (.int .i64))] (fun s w => R s w) = S54 s1 a2 b3 most4 w R := by kernel_rfl
  exact (fn_calls okF okM Tryd.func54 (by kernel_rfl) (by kernel_rfl) (e.mpr h)).mono fun _ _ ⟨s, he, hR⟩ => ⟨s, he, hR⟩

def S32L1 (w : World) (s2 : ByteArray) (vat3 : Int) (vw4 : World) (x21 : Int) (x22 : Slc) (R : (Int × Int × Int) → World → Prop) (I26 : Int → World → Prop) (s24 : Int) (vw25 : World) : Prop :=
  Br (decide (s24 ≥ 0)) (0 ≤ s24 ∧ s24 < (x22.len : Nat) ∧ Nn x22.p fun a30 =>
    Ld vw25 (a30.add ((s24).toNat * 1)) (Value.int .i64) fun (x31 : Int) =>
    Br (decide ((IntKind.i64.wrap (vat3 - x31)) ≤ 32768)) (Ld vw25 ((⟨vw4.heap.size, 0, none⟩ : Addr).add 1) (Value.int .i64) fun (x32 : Int) =>
      Br (decide (x32 < x21)) (0 ≤ s24 ∧ s24 < (x22.len : Nat) ∧ Nn x22.p fun a33 =>
        Ld vw25 (a33.add ((s24).toNat * 1)) (Value.int .i64) fun (x34 : Int) =>
        C54 s2 x34 vat3 x21 vw25 fun r35 vw36 =>
          Ld vw36 ((⟨vw4.heap.size, 0, none⟩ : Addr).add 1) (Value.int .i64) fun (x37 : Int) =>
          Br (decide (r35 > x37)) (0 ≤ s24 ∧ s24 < (x22.len : Nat) ∧ Nn x22.p fun a38 =>
            Ld vw36 (a38.add ((s24).toNat * 1)) (Value.int .i64) fun (x39 : Int) =>
            St vw36 (⟨vw4.heap.size, 0, none⟩ : Addr) (.int .u8 0) fun vw40 =>
            St vw40 ((⟨vw4.heap.size, 0, none⟩ : Addr).add 1) (.int .i64 r35) fun vw41 =>
            St vw41 ((⟨vw4.heap.size, 0, none⟩ : Addr).add 2) (.int .i64 (IntKind.i64.wrap (vat3 - x39))) fun vw42 =>
            I26 (IntKind.i64.wrap (s24 - 1)) vw42) (I26 (IntKind.i64.wrap (s24 - 1)) vw36)) (Ld vw25 (⟨vw4.heap.size, 0, none⟩ : Addr) (Value.int .u8) fun (x43 : Int) =>
        Ld vw25 ((⟨vw4.heap.size, 0, none⟩ : Addr).add 1) (Value.int .i64) fun (x44 : Int) =>
        Ld vw25 ((⟨vw4.heap.size, 0, none⟩ : Addr).add 2) (Value.int .i64) fun (x45 : Int) =>
        St vw25 (⟨w.heap.size, 0, none⟩ : Addr) (.int .u8 x43) fun vw46 =>
        St vw46 ((⟨w.heap.size, 0, none⟩ : Addr).add 1) (.int .i64 x44) fun vw47 =>
        St vw47 ((⟨w.heap.size, 0, none⟩ : Addr).add 2) (.int .i64 x45) fun vw48 =>
        Ld vw48 (⟨w.heap.size, 0, none⟩ : Addr) (Value.int .u8) fun (x49 : Int) =>
        Ld vw48 ((⟨w.heap.size, 0, none⟩ : Addr).add 1) (Value.int .i64) fun (x50 : Int) =>
        Ld vw48 ((⟨w.heap.size, 0, none⟩ : Addr).add 2) (Value.int .i64) fun (x51 : Int) =>
        R (x49, x50, x51) vw48)) (Ld vw25 (⟨vw4.heap.size, 0, none⟩ : Addr) (Value.int .u8) fun (x52 : Int) =>
      Ld vw25 ((⟨vw4.heap.size, 0, none⟩ : Addr).add 1) (Value.int .i64) fun (x53 : Int) =>
      Ld vw25 ((⟨vw4.heap.size, 0, none⟩ : Addr).add 2) (Value.int .i64) fun (x54 : Int) =>
      St vw25 (⟨w.heap.size, 0, none⟩ : Addr) (.int .u8 x52) fun vw55 =>
      St vw55 ((⟨w.heap.size, 0, none⟩ : Addr).add 1) (.int .i64 x53) fun vw56 =>
      St vw56 ((⟨w.heap.size, 0, none⟩ : Addr).add 2) (.int .i64 x54) fun vw57 =>
      Ld vw57 (⟨w.heap.size, 0, none⟩ : Addr) (Value.int .u8) fun (x58 : Int) =>
      Ld vw57 ((⟨w.heap.size, 0, none⟩ : Addr).add 1) (Value.int .i64) fun (x59 : Int) =>
      Ld vw57 ((⟨w.heap.size, 0, none⟩ : Addr).add 2) (Value.int .i64) fun (x60 : Int) =>
      R (x58, x59, x60) vw57)) (Ld vw25 (⟨vw4.heap.size, 0, none⟩ : Addr) (Value.int .u8) fun (x61 : Int) =>
    Ld vw25 ((⟨vw4.heap.size, 0, none⟩ : Addr).add 1) (Value.int .i64) fun (x62 : Int) =>
    Ld vw25 ((⟨vw4.heap.size, 0, none⟩ : Addr).add 2) (Value.int .i64) fun (x63 : Int) =>
    St vw25 (⟨w.heap.size, 0, none⟩ : Addr) (.int .u8 x61) fun vw64 =>
    St vw64 ((⟨w.heap.size, 0, none⟩ : Addr).add 1) (.int .i64 x62) fun vw65 =>
    St vw65 ((⟨w.heap.size, 0, none⟩ : Addr).add 2) (.int .i64 x63) fun vw66 =>
    Ld vw66 (⟨w.heap.size, 0, none⟩ : Addr) (Value.int .u8) fun (x67 : Int) =>
    Ld vw66 ((⟨w.heap.size, 0, none⟩ : Addr).add 1) (Value.int .i64) fun (x68 : Int) =>
    Ld vw66 ((⟨w.heap.size, 0, none⟩ : Addr).add 2) (Value.int .i64) fun (x69 : Int) =>
    R (x67, x68, x69) vw66)
/-- (foliant/deflate.trail).copied -/
def S32 (t1 : Option Nat) (s2 : ByteArray) (vat3 : Int) (w : World) (R : (Int × Int × Int) → World → Prop) : Prop :=
  Nw w (.cells #[.int .u8 0, .int .i64 0, .int .i64 0] 40) fun vw4 =>
  Nw vw4 (.cells #[.int .u8 0, .int .i64 0, .int .i64 0] 40) fun vw5 =>
  Br (decide ((IntKind.i64.wrap (vat3 + 3)) > (((s2).size : Nat) : Int))) (Ld vw5 (⟨vw4.heap.size, 0, none⟩ : Addr) (Value.int .u8) fun (x12 : Int) =>
    Ld vw5 ((⟨vw4.heap.size, 0, none⟩ : Addr).add 1) (Value.int .i64) fun (x13 : Int) =>
    Ld vw5 ((⟨vw4.heap.size, 0, none⟩ : Addr).add 2) (Value.int .i64) fun (x14 : Int) =>
    St vw5 (⟨w.heap.size, 0, none⟩ : Addr) (.int .u8 x12) fun vw15 =>
    St vw15 ((⟨w.heap.size, 0, none⟩ : Addr).add 1) (.int .i64 x13) fun vw16 =>
    St vw16 ((⟨w.heap.size, 0, none⟩ : Addr).add 2) (.int .i64 x14) fun vw17 =>
    Ld vw17 (⟨w.heap.size, 0, none⟩ : Addr) (Value.int .u8) fun (x18 : Int) =>
    Ld vw17 ((⟨w.heap.size, 0, none⟩ : Addr).add 1) (Value.int .i64) fun (x19 : Int) =>
    Ld vw17 ((⟨w.heap.size, 0, none⟩ : Addr).add 2) (Value.int .i64) fun (x20 : Int) =>
    R (x18, x19, x20) vw17) (Lt ((if (IntKind.i64.wrap ((((s2).size : Nat) : Int) - vat3)) < 258 then (IntKind.i64.wrap ((((s2).size : Nat) : Int) - vat3)) else 258)) fun (x21 : Int) =>
    0 ≤ (IntKind.i64.wrap (vat3 + 3)) ∧ (IntKind.i64.wrap (vat3 + 3)) ≤ (((s2).size : Nat) : Int) ∧ 0 ≤ vat3 ∧ vat3 ≤ (((IntKind.i64.wrap (vat3 + 3)).toNat : Nat) : Int) ∧ Rn Tryd.prog (Instr.lookup 60 (.map t1) (.string (s2.extract ((vat3).toNat) ((IntKind.i64.wrap (vat3 + 3)).toNat))) false) vw5 Slc.v fun (x22 : Slc) vw23 =>
    Lp (σ := Int) (S32L1 w s2 vat3 vw4 x21 x22 R) (IntKind.i64.wrap (((x22.len : Nat) : Int) - 1)) vw23)
def pl32 : Plan := (.seq (.reg .seq) (.seq (.reg .seq) (.seq (.seq (.reg .seq) (.cond (.seq (.reg .seq) .leaf) .leaf)) (.seq (.reg .seq) (.seq (.reg .seq) (.seq (.seq (.reg .seq) (.block (.loop [(10, (.one (.int .i64)))] [1, 2, 6, 7, 8, 9] (.seq (.seq (.reg .seq) (.cond .leaf .leaf)) (.seq (.block (.seq (.reg .seq) (.seq (.reg .seq) (.cond (.reg .seq) .leaf)))) (.reg .seq)))))) (.seq (.reg .seq) .leaf)))))))
set_option maxRecDepth 100000 in
theorem T32 (t1 : Option Nat) (s2 : ByteArray) (vat3 : Int) (w : World) (R : (Int × Int × Int) → World → Prop) (h : S32 t1 s2 vat3 w R) : C32 t1 s2 vat3 w R := by
  have e : fnT Tryd.prog ⟨FF, MAY, (fun _ _ => False)⟩ pl32 Tryd.f32 [.map t1, .string s2, .int .i64 vat3] w [(.agg [(.int .u8), (.int .i64), (.int .i64)])] (fun s w => R s w) = S32 t1 s2 vat3 w R := by kernel_rfl
  exact (fn_calls okF okM Tryd.func32 (by kernel_rfl) (by kernel_rfl) (e.mpr h)).mono fun _ _ ⟨s, he, hR⟩ => ⟨s, he, hR⟩

def S33L1 (t1 : Option Nat) (s2 : ByteArray) (to4 : Int) (R : World → Prop) (I7 : Int → World → Prop) (s5 : Int) (vw6 : World) : Prop :=
  Br (decide (s5 < to4)) (Br (decide ((IntKind.i64.wrap (s5 + 3)) ≤ (((s2).size : Nat) : Int))) (0 ≤ (IntKind.i64.wrap (s5 + 3)) ∧ (IntKind.i64.wrap (s5 + 3)) ≤ (((s2).size : Nat) : Int) ∧ 0 ≤ s5 ∧ s5 ≤ (((IntKind.i64.wrap (s5 + 3)).toNat : Nat) : Int) ∧ 0 ≤ (IntKind.i64.wrap (s5 + 3)) ∧ (IntKind.i64.wrap (s5 + 3)) ≤ (((s2).size : Nat) : Int) ∧ 0 ≤ s5 ∧ s5 ≤ (((IntKind.i64.wrap (s5 + 3)).toNat : Nat) : Int) ∧ (Rn Tryd.prog (Instr.lookup 60 (.map t1) (.string (s2.extract ((s5).toNat) ((IntKind.i64.wrap (s5 + 3)).toNat))) false) vw6.drew Slc.v fun (x8 : Slc) vw9 =>
        Nw vw9 (.cells #[.int .i64 s5] 3) fun vw10 =>
        Rn Tryd.prog (Builtin.append_ #[69, 69] 69 #[Slc.v x8, Slc.v ((⟨some ⟨vw9.heap.size, 0, none⟩, 1, 1⟩ : Slc))]) vw10 Slc.v fun (x11 : Slc) vw12 =>
        Ru Tryd.prog (Instr.mapUpdate 60 (.map t1) (.string (s2.extract ((s5).toNat) ((IntKind.i64.wrap (s5 + 3)).toNat))) (Slc.v x11)) vw12 fun vw13 =>
        I7 (IntKind.i64.wrap (s5 + 1)) vw13) ∧
      (Nw vw6.drew (.cells #[.int .i64 s5] 3) fun vw14 =>
        Rn Tryd.prog (Instr.lookup 60 (.map t1) (.string (s2.extract ((s5).toNat) ((IntKind.i64.wrap (s5 + 3)).toNat))) false) vw14 Slc.v fun (x15 : Slc) vw16 =>
        Rn Tryd.prog (Builtin.append_ #[69, 69] 69 #[Slc.v x15, Slc.v ((⟨some ⟨vw6.drew.heap.size, 0, none⟩, 1, 1⟩ : Slc))]) vw16 Slc.v fun (x17 : Slc) vw18 =>
        Ru Tryd.prog (Instr.mapUpdate 60 (.map t1) (.string (s2.extract ((s5).toNat) ((IntKind.i64.wrap (s5 + 3)).toNat))) (Slc.v x17)) vw18 fun vw19 =>
        I7 (IntKind.i64.wrap (s5 + 1)) vw19)) (R vw6)) (R vw6)
/-- (foliant/deflate.trail).add -/
def S33 (t1 : Option Nat) (s2 : ByteArray) (vfrom3 : Int) (to4 : Int) (w : World) (R : World → Prop) : Prop :=
  Lp (σ := Int) (S33L1 t1 s2 to4 R) vfrom3 w
def pl33 : Plan := (.seq (.reg .seq) (.block (.loop [(8, (.one (.int .i64)))] [0, 1, 3] (.seq (.seq (.reg .seq) (.cond .leaf .leaf)) (.seq (.block (.reg (.held [12, 14] (.take 0 (.take 1 (.take 2 (.take 3 (.take 4 (.take 5 (.take 6 (.take 7 (.take 8 (.take 9 (.take 10 (.take 11 (.take 13 (.effs 12 (some [14]) (.eff 14 (some [15]) (.eff 15 (some [16]) (.eff 16 (some []) .done))) (.eff 14 (some [12]) (.eff 12 (some [15]) (.eff 15 (some [16]) (.eff 16 (some []) .done))))))))))))))))))))) (.reg .seq))))))
set_option maxRecDepth 100000 in
theorem T33 (t1 : Option Nat) (s2 : ByteArray) (vfrom3 : Int) (to4 : Int) (w : World) (R : World → Prop) (h : S33 t1 s2 vfrom3 to4 w R) : C33 t1 s2 vfrom3 to4 w R := by
  have e : fnT Tryd.prog ⟨FF, MAY, (fun _ _ => False)⟩ pl33 Tryd.f33 [.map t1, .string s2, .int .i64 vfrom3, .int .i64 to4] w [] (fun _ w => R w) = S33 t1 s2 vfrom3 to4 w R := by kernel_rfl
  exact (fn_calls okF okM Tryd.func33 (by kernel_rfl) (by kernel_rfl) (e.mpr h)).mono fun _ _ ⟨_, he, hR⟩ => ⟨he, hR⟩

def S18L1 (w : World) (s1 : ByteArray) (R : Slc → World → Prop) (I5 : (Slc × Int) → World → Prop) (s3 : Slc × Int) (vw4 : World) : Prop :=
  Br (decide (s3.2 < (((s1).size : Nat) : Int))) (C32 (some w.heap.size) s1 s3.2 vw4 fun r6 vw7 =>
      Nw vw7 (.cells #[.int .u8 0, .int .i64 0, .int .i64 0] 40) fun vw8 =>
      St vw8 (⟨vw7.heap.size, 0, none⟩ : Addr) (.int .u8 (r6.1)) fun vw9 =>
      St vw9 ((⟨vw7.heap.size, 0, none⟩ : Addr).add 1) (.int .i64 (r6.2.1)) fun vw10 =>
      St vw10 ((⟨vw7.heap.size, 0, none⟩ : Addr).add 2) (.int .i64 (r6.2.2)) fun vw11 =>
      Ld vw11 ((⟨vw7.heap.size, 0, none⟩ : Addr).add 1) (Value.int .i64) fun (x12 : Int) =>
      Ld vw11 ((⟨vw7.heap.size, 0, none⟩ : Addr).add 1) (Value.int .i64) fun (x15 : Int) =>
      Br (x15 == 0) (0 ≤ s3.2 ∧ s3.2 < ((s1).size : Nat) ∧ St vw11 (⟨vw7.heap.size, 0, none⟩ : Addr) (.int .u8 (bAt s1 s3.2)) fun vw16 =>
        Ld vw16 (⟨vw7.heap.size, 0, none⟩ : Addr) (Value.int .u8) fun (x17 : Int) =>
        Ld vw16 ((⟨vw7.heap.size, 0, none⟩ : Addr).add 1) (Value.int .i64) fun (x18 : Int) =>
        Ld vw16 ((⟨vw7.heap.size, 0, none⟩ : Addr).add 2) (Value.int .i64) fun (x19 : Int) =>
        Nw vw16 (.cells #[.int .u8 x17, .int .i64 x18, .int .i64 x19] 40) fun vw20 =>
        Rn Tryd.prog (Builtin.append_ #[37, 37] 37 #[Slc.v s3.1, Slc.v ((⟨some ⟨vw16.heap.size, 0, none⟩, 1, 1⟩ : Slc))]) vw20 Slc.v fun (x21 : Slc) vw22 =>
        C33 (some w.heap.size) s1 s3.2 (IntKind.i64.wrap (s3.2 + (if 1 > x12 then 1 else x12))) vw22 fun vw23 =>
          I5 (x21, IntKind.i64.wrap (s3.2 + (if 1 > x12 then 1 else x12))) vw23) (Ld vw11 (⟨vw7.heap.size, 0, none⟩ : Addr) (Value.int .u8) fun (x24 : Int) =>
        Ld vw11 ((⟨vw7.heap.size, 0, none⟩ : Addr).add 1) (Value.int .i64) fun (x25 : Int) =>
        Ld vw11 ((⟨vw7.heap.size, 0, none⟩ : Addr).add 2) (Value.int .i64) fun (x26 : Int) =>
        Nw vw11 (.cells #[.int .u8 x24, .int .i64 x25, .int .i64 x26] 40) fun vw27 =>
        Rn Tryd.prog (Builtin.append_ #[37, 37] 37 #[Slc.v s3.1, Slc.v ((⟨some ⟨vw11.heap.size, 0, none⟩, 1, 1⟩ : Slc))]) vw27 Slc.v fun (x28 : Slc) vw29 =>
        C33 (some w.heap.size) s1 s3.2 (IntKind.i64.wrap (s3.2 + (if 1 > x12 then 1 else x12))) vw29 fun vw30 =>
          I5 (x28, IntKind.i64.wrap (s3.2 + (if 1 > x12 then 1 else x12))) vw30)) (R s3.1 vw4)
/-- foliant/deflate.Parts -/
def S18 (s1 : ByteArray) (w : World) (R : Slc → World → Prop) : Prop :=
  Br (decide ((((s1).size : Nat) : Int) > 1048576)) (R (⟨none, 0, 0⟩ : Slc) w) (Nw w (.map #[] 0) fun vw2 =>
    Lp (σ := Slc × Int) (S18L1 w s1 R) ((⟨none, 0, 0⟩ : Slc), 0) vw2)
def pl18 : Plan := (.seq (.reg .seq) (.seq (.seq (.reg .seq) (.cond (.seq (.reg .seq) .leaf) .leaf)) (.seq (.reg .seq) (.seq (.reg .seq) (.seq (.seq (.reg .seq) (.block (.loop [(3, (.one .slc)), (5, (.one (.int .i64)))] [0, 4] (.seq (.seq (.reg .seq) (.cond .leaf .leaf)) (.block (.seq (.reg .seq) (.seq (.reg .seq) (.seq (.seq (.reg .seq) (.cond (.reg .seq) .leaf)) (.seq (.reg .seq) (.seq (.reg .seq) (.reg .seq))))))))))) (.seq (.reg .seq) .leaf))))))
set_option maxRecDepth 100000 in
theorem T18 (s1 : ByteArray) (w : World) (R : Slc → World → Prop) (h : S18 s1 w R) : C18 s1 w R := by
  have e : fnT Tryd.prog ⟨FF, MAY, (fun _ _ => False)⟩ pl18 Tryd.f18 [.string s1] w [(.one .slc)] (fun s w => R s w) = S18 s1 w R := by kernel_rfl
  exact (fn_calls okF okM Tryd.func18 (by kernel_rfl) (by kernel_rfl) (e.mpr h)).mono fun _ _ ⟨s, he, hR⟩ => ⟨s, he, hR⟩

def S22J1 (r2 : Option Addr) (s4 : ByteArray) (I6 : ByteArray → World → Prop) (R : ByteArray → World → Prop) (s8 : Int) (vw9 : World) : Prop :=
  C36 r2 s8 1 vw9 fun r10 vw11 =>
    C36 r2 0 2 vw11 fun r12 vw13 =>
      C37 r2 vw13 fun vw14 =>
        C36 r2 (if 65535 < (((s4).size : Nat) : Int) then 65535 else (((s4).size : Nat) : Int)) 16 vw14 fun r15 vw16 =>
          Lt (IntKind.i64.wrap (65535 - (if 65535 < (((s4).size : Nat) : Int) then 65535 else (((s4).size : Nat) : Int)))) fun (x17 : Int) =>
          C36 r2 x17 16 vw16 fun r18 vw19 =>
            C37 r2 vw19 fun vw20 =>
              0 ≤ (if 65535 < (((s4).size : Nat) : Int) then 65535 else (((s4).size : Nat) : Int)) ∧ (if 65535 < (((s4).size : Nat) : Int) then 65535 else (((s4).size : Nat) : Int)) ≤ (((s4).size : Nat) : Int) ∧ Lt (s4.extract 0 (((if 65535 < (((s4).size : Nat) : Int) then 65535 else (((s4).size : Nat) : Int))).toNat)) fun (x21 : ByteArray) =>
              C38 r2 x21 vw20 fun vw22 =>
                0 ≤ (if 65535 < (((s4).size : Nat) : Int) then 65535 else (((s4).size : Nat) : Int)) ∧ (if 65535 < (((s4).size : Nat) : Int) then 65535 else (((s4).size : Nat) : Int)) ≤ (((s4).size : Nat) : Int) ∧ Lt (s4.extract (((if 65535 < (((s4).size : Nat) : Int) then 65535 else (((s4).size : Nat) : Int))).toNat) ((s4).size)) fun (x23 : ByteArray) =>
                Br (s8 == 1) (C39 r2 vw22 fun r24 vw25 =>
                    R r24 vw25) (I6 x23 vw22)
def S22L1 (r2 : Option Addr) (R : ByteArray → World → Prop) (I6 : ByteArray → World → Prop) (s4 : ByteArray) (vw5 : World) : Prop :=
  Join (S22J1 r2 s4 I6 R) fun (vJ26 : Int → World → Prop) =>
    Lt ((if 65535 < (((s4).size : Nat) : Int) then 65535 else (((s4).size : Nat) : Int)) == (((s4).size : Nat) : Int)) fun (x27 : Bool) =>
    Br x27 (vJ26 1 vw5) (vJ26 0 vw5)
/-- foliant/deflate.stored -/
def S22 (s1 : ByteArray) (w : World) (R : ByteArray → World → Prop) : Prop :=
  C35 w fun r2 vw3 =>
    Lp (σ := ByteArray) (S22L1 r2 R) s1 vw3
def pl22 : Plan := (.seq (.reg .seq) (.seq (.reg .seq) (.block (.loop [(0, (.one .str))] [3] (.block (.seq (.reg .seq) (.seq (.reg .seq) (.join [(5, (.one (.int .i64)))] [0, 3, 4] (.seq (.reg .seq) (.cond (.reg .seq) .leaf)) (.seq (.reg .seq) (.seq (.reg .seq) (.seq (.reg .seq) (.seq (.reg .seq) (.seq (.reg .seq) (.seq (.reg .seq) (.seq (.reg .seq) (.seq (.reg .seq) (.seq (.reg .seq) (.cond (.seq (.reg .seq) .leaf) .leaf))))))))))))))))))
set_option maxRecDepth 100000 in
theorem T22 (s1 : ByteArray) (w : World) (R : ByteArray → World → Prop) (h : S22 s1 w R) : C22 s1 w R := by
  have e : fnT Tryd.prog ⟨FF, MAY, (fun _ _ => False)⟩ pl22 Tryd.f22 [.string s1] w [(.one .str)] (fun s w => R s w) = S22 s1 w R := by kernel_rfl
  exact (fn_calls okF okM Tryd.func22 (by kernel_rfl) (by kernel_rfl) (e.mpr h)).mono fun _ _ ⟨s, he, hR⟩ => ⟨s, he, hR⟩

end Go.Proofs.YtjkoafjnmkchdaaDoor

/- Deflate: the sign of a length or a distance, both sides. No condition. -/
namespace Go.Proofs.YtjkoafjnmkchdaaDoor
namespace Inf
open Sh Bit
set_option linter.unusedVariables false
set_option linter.unusedSimpArgs false
set_option maxRecDepth 4000
set_option maxHeartbeats 1000000
attribute [local irreducible] Ld St Nw Nn Lt LdS
/-- What the sign of a size is. -/
def sgnF (v : Int) : Int × Int × Int × Int := if v < 3 ∨ 258 < v then (0, 0, 0, 1) else (((257 + kL v.toNat : Nat) : Int), ((v.toNat - firstL (kL v.toNat) : Nat) : Int), ((moreL (kL v.toNat) : Nat) : Int), 0)
def bckF (v : Int) : Int × Int × Int × Int := if v < 1 ∨ 32768 < v then (0, 0, 0, 1) else (((kD v.toNat : Nat) : Int), ((v.toNat - baseD (kD v.toNat) : Nat) : Int), ((moreD (kD v.toNat) : Nat) : Int), 0)
theorem spr_small {first each : Nat} (he : 2 ≤ each) : ∀ k, k ≤ 2 * each → spr first each k = first + k
  | 0, _ => rfl
  | k + 1, h => by
    show spr first each k + 2 ^ (k / each - 1) = _
    have : k / each ≤ 1 := by
      have := (Nat.div_lt_iff_lt_mul (by omega : 0 < each)).2 (show k < 2 * each by omega)
      omega
    rw [spr_small he k (by omega), show k / each - 1 = 0 by omega]
    omega
theorem spr_step {first each j : Nat} (he : 2 ≤ each) : ∀ q, q ≤ each → spr first each (each * (j + 2) + q) = spr first each (each * (j + 2)) + q * 2 ^ (j + 1)
  | 0, _ => by simp
  | q + 1, h => by
    show spr first each (each * (j + 2) + q) + 2 ^ ((each * (j + 2) + q) / each - 1) = _
    have : (each * (j + 2) + q) / each = j + 2 := by
      rw [Nat.mul_add_div (by omega), Nat.div_eq_of_lt (by omega)]
    rw [spr_step he q (by omega), this, show j + 2 - 1 = j + 1 by omega, Nat.add_mul, Nat.one_mul, Nat.add_assoc]
theorem mask_mod {x m : Nat} (hx : x < 2 ^ 40) (hm : m ≤ 30) : iand .i64 (x : Int) (IntKind.i64.wrap (IntKind.i64.wrap (1 * 2 ^ (min ((m : Int)).toNat 64)) - 1)) = ((x % 2 ^ m : Nat) : Int) := by
  have hp : 2 ^ m ≤ 2 ^ 30 := Nat.pow_le_pow_right (by omega) hm
  have h0 : 0 < 2 ^ m := Nat.pow_pos (by decide)
  rw [sh1 rfl hm, ← Nat.and_two_pow_sub_one_eq_mod]
  generalize 2 ^ m = P at hp h0
  rw [i64_id (by omega), show (P : Int) - 1 = ((P - 1 : Nat) : Int) by omega, iand_nat (by omega) (by omega)]
theorem spr_ge (first each : Nat) : ∀ k, first ≤ spr first each k
  | 0 => Nat.le_refl _
  | k + 1 => Nat.le_trans (spr_ge first each k) (Nat.le_add_right _ _)
/-- foliant/deflate.said. -/
theorem c_said {first each : Nat} (he : each = 2 ∨ each = 4) {n : Nat} (hn : n ≤ 40000) (w : World) : C81 (n : Int) ((2 * each : Nat) : Int) (each : Int) w fun r0 r1 r2 w1 => ∃ k : Nat, r0 = (k : Int) ∧ spr first each k ≤ first + n ∧ first + n < spr first each (k + 1) ∧ r1 = ((first + n - spr first each k : Nat) : Int) ∧ r2 = ((k / each - 1 : Nat) : Int) ∧ Ext (fun _ => False) w w1 := by
  have h2 : 2 ≤ each := by omega
  refine T81 _ _ _ _ _ ?_
  unfold S81
  refine Br.dec (fun q => ?_) fun q => ?_
  · have : n / each ≤ 1 := by
      have := (Nat.div_lt_iff_lt_mul (by omega : 0 < each)).2 (show n < 2 * each by omega)
      omega
    exact ⟨n, rfl, by rw [spr_small h2 n (by omega)]; omega, by rw [spr_small h2 (n + 1) (by omega)]; omega, by rw [spr_small h2 n (by omega)]; omega, by rw [show n / each - 1 = 0 by omega]; rfl, Ext.refl _ _⟩
  · refine ⟨fun m st w3 => ∃ j : Nat, m = 40 - j ∧ j ≤ 14 ∧ spr first each (each * (j + 2)) ≤ first + n ∧ st = (((first + n - spr first each (each * (j + 2)) : Nat) : Int), ((each * (j + 2) : Nat) : Int), ((j + 1 : Nat) : Int)) ∧ w3 = w, 40, ?_, ?_⟩
    · have e0 : spr first each (each * (0 + 2)) = first + 2 * each := by rw [show each * (0 + 2) = 2 * each by omega, spr_small h2 _ (Nat.le_refl _)]
      refine ⟨0, rfl, by omega, by rw [e0]; omega, ?_, rfl⟩
      rw [e0, i64_id (by omega), show ((n : Nat) : Int) - ((2 * each : Nat) : Int) = ((first + n - (first + 2 * each) : Nat) : Int) by omega, show each * (0 + 2) = 2 * each by omega]
      rfl
    · rintro m st _ ⟨j, rfl, hj, hle, rfl, rfl⟩
      unfold S81L1
      dsimp only
      have hp : 2 ^ (j + 1) ≤ 2 ^ 15 := Nat.pow_le_pow_right (by omega) (by omega)
      have hp0 : 0 < 2 ^ (j + 1) := Nat.pow_pos (by decide)
      have hge := spr_ge first each (each * (j + 2))
      have e2 : (each : Int) * 2 ^ (min (((j + 1 : Nat) : Int)).toNat 64) = ((each * 2 ^ (j + 1) : Nat) : Int) := by rw [Int.toNat_natCast, Nat.min_eq_left (by omega)]; simp
      have hm1 : each * 2 ^ (j + 1) ≤ 4 * 2 ^ 15 := Nat.mul_le_mul (by omega) hp
      have eW : IntKind.i64.wrap ((each * 2 ^ (j + 1) : Nat) : Int) = ((each * 2 ^ (j + 1) : Nat) : Int) := i64_id (by omega)
      have st1 := spr_step (first := first) (j := j) h2 each (Nat.le_refl _)
      have em : each * (j + 2) + each = each * (j + 1 + 2) := by rw [← Nat.mul_succ]
      rw [em] at st1
      have hmul : each * (j + 2) ≤ 4 * 16 := Nat.mul_le_mul (by omega) (by omega)
      refine ⟨by omega, ?_⟩
      rw [e2, eW]
      refine Br.dec (fun q2 => ⟨by omega, ?_⟩) fun q2 => ⟨by omega, by omega, Lt.of ?_⟩
      · have hj2 : j + 1 ≤ 14 := by
          rcases Nat.lt_or_ge j 14 with h | h
          · omega
          · have : j = 14 := by omega
            subst this
            omega
        refine ⟨40 - (j + 1), by omega, j + 1, rfl, hj2, by rw [st1]; omega, ?_, rfl⟩
        rw [st1, i64_id (by omega), i64_id (by omega), i64_id (by omega)]
        refine Prod.ext ?_ (Prod.ext ?_ ?_)
        · show (_ : Int) = _; dsimp only; omega
        · show (_ : Int) = _; dsimp only; rw [← em]; omega
        · show (_ : Int) = _; dsimp only; omega
      · have hx : first + n - spr first each (each * (j + 2)) < each * 2 ^ (j + 1) := by omega
        generalize hxe : first + n - spr first each (each * (j + 2)) = x at hx
        have hq : x / 2 ^ (j + 1) < each := (Nat.div_lt_iff_lt_mul hp0).2 hx
        have hdm := Nat.div_add_mod x (2 ^ (j + 1))
        have hmod := Nat.mod_lt x hp0
        have s1 := spr_step (first := first) (j := j) h2 (x / 2 ^ (j + 1)) (by omega)
        have s2 := spr_step (first := first) (j := j) h2 (x / 2 ^ (j + 1) + 1) (by omega)
        rw [Nat.add_mul, Nat.one_mul] at s2
        rw [Nat.mul_comm] at hdm
        have efd : Int.fdiv (x : Int) (2 ^ (min (((j + 1 : Nat) : Int)).toNat 64)) = ((x / 2 ^ (j + 1) : Nat) : Int) := by
          rw [Int.toNat_natCast, Nat.min_eq_left (by omega), fdiv_pow]
          simp
        have ediv : (each * (j + 2) + x / 2 ^ (j + 1)) / each = j + 2 := by
          rw [Nat.mul_add_div (by omega), Nat.div_eq_of_lt hq]
        have hxb : x < 2 ^ 40 := by omega
        refine ⟨each * (j + 2) + x / 2 ^ (j + 1), ?_, by rw [s1]; omega, by rw [Nat.add_assoc, s2]; omega, ?_, by rw [ediv]; rfl, (Ext.refl _ _).drew⟩
        · rw [efd]
          generalize x / 2 ^ (j + 1) = qq at hq ⊢
          rw [i64_id (by omega)]
          omega
        · rw [mask_mod hxb (by omega), s1]; omega
theorem c_Sign (v : Int) (w : World) : C62 v w fun a b c e w1 => (a, b, c, e) = sgnF v ∧ Ext (fun _ => False) w w1 := by
  refine T62 _ _ _ ?_
  unfold S62 sgnF
  refine Br.dec (fun q => ⟨by rw [if_pos (.inl q)], Ext.refl _ _⟩) fun q => Br.dec (fun q2 => ⟨by rw [if_pos (.inr q2)], Ext.refl _ _⟩) fun q2 => ?_
  rw [if_neg (by omega)]
  obtain ⟨n, rfl⟩ : ∃ n : Nat, v = (n : Int) := ⟨v.toNat, by omega⟩
  rw [Int.toNat_natCast]
  refine Br.eq (fun q3 => ?_) fun q3 => ?_
  · have : n = 258 := by omega
    subst this
    exact ⟨rfl, Ext.refl _ _⟩
  · rw [i64_id (by omega), show (n : Int) - 3 = ((n - 3 : Nat) : Int) by omega]
    refine (c_said (first := 3) (each := 4) (.inr rfl) (n := n - 3) (by omega) w).mono ?_
    rintro a b c w1 ⟨k, rfl, h1, h2, rfl, rfl, he⟩
    rw [spr_L] at h1 h2 ⊢
    have hk := kL_eq (v := n) (k := k) (by omega) (by omega) (by omega) (by omega)
    obtain ⟨k1, k2, k3, k4⟩ := kL_spec (v := n) (by omega) (by omega)
    rw [← hk] at k1 k2 k3 k4 ⊢
    have hne : k ≠ 28 := by omega
    have hf : firstL k = baseL k := by unfold firstL; rw [if_neg hne]
    have hm : moreL k = k / 4 - 1 := by unfold moreL; rw [if_neg hne]
    rw [i64_id (by omega), hf, hm]
    refine ⟨?_, he⟩
    refine Prod.ext ?_ (Prod.ext ?_ rfl)
    · show (_ : Int) = _; dsimp only; omega
    · show (_ : Int) = _; dsimp only; omega
theorem c_Back (v : Int) (w : World) : C63 v w fun a b c e w1 => (a, b, c, e) = bckF v ∧ Ext (fun _ => False) w w1 := by
  refine T63 _ _ _ ?_
  unfold S63 bckF
  refine Br.dec (fun q => ⟨by rw [if_pos (.inl q)], Ext.refl _ _⟩) fun q => Br.dec (fun q2 => ⟨by rw [if_pos (.inr q2)], Ext.refl _ _⟩) fun q2 => ?_
  rw [if_neg (by omega)]
  obtain ⟨n, rfl⟩ : ∃ n : Nat, v = (n : Int) := ⟨v.toNat, by omega⟩
  rw [Int.toNat_natCast]
  rw [i64_id (by omega), show (n : Int) - 1 = ((n - 1 : Nat) : Int) by omega]
  refine (c_said (first := 1) (each := 2) (.inl rfl) (n := n - 1) (by omega) w).mono ?_
  rintro a b c w1 ⟨k, rfl, h1, h2, rfl, rfl, he⟩
  rw [spr_D] at h1 h2 ⊢
  have hk := kD_eq (v := n) (k := k) (by omega) (by omega) (by omega) (by omega)
  rw [← hk]
  refine ⟨?_, he⟩
  refine Prod.ext rfl (Prod.ext ?_ rfl)
  show (_ : Int) = _; dsimp only; omega
/-! ### The reference's -/
/-- What the sign says is the size. -/
theorem size_back {v : Int} (h : ¬ (v < 3 ∨ 258 < v)) : sizeF (sgnF v).1 (sgnF v).2.1 = (v, 0) := by
  obtain ⟨n, rfl⟩ : ∃ n : Nat, v = (n : Int) := ⟨v.toNat, by omega⟩
  obtain ⟨a, b, c, d⟩ := kL_spec (v := n) (by omega) (by omega)
  have e2 : ((2 ^ moreL (kL n) : Nat) : Int) = 2 ^ moreL (kL n) := by simp
  unfold sgnF sizeF
  rw [if_neg h, Int.toNat_natCast]
  dsimp only
  rw [if_neg (by omega), show (((257 + kL n : Nat) : Int) - 257).toNat = kL n by omega]
  rw [if_neg (by omega)]
  refine Prod.ext ?_ rfl
  show (_ : Int) = _; dsimp only; omega
theorem far_back {v : Int} (h : ¬ (v < 1 ∨ 32768 < v)) : farF (bckF v).1 (bckF v).2.1 = (v, 0) := by
  obtain ⟨n, rfl⟩ : ∃ n : Nat, v = (n : Int) := ⟨v.toNat, by omega⟩
  obtain ⟨a, b, c⟩ := kD_spec (v := n) (by omega) (by omega)
  have e2 : ((2 ^ moreD (kD n) : Nat) : Int) = 2 ^ moreD (kD n) := by simp
  unfold bckF farF
  rw [if_neg h, Int.toNat_natCast]
  dsimp only
  rw [if_neg (by omega), Int.toNat_natCast]
  rw [if_neg (by omega)]
  refine Prod.ext ?_ rfl
  show (_ : Int) = _; dsimp only; omega
end Inf
end Go.Proofs.YtjkoafjnmkchdaaDoor

/- append to a slice that has no room, or to an empty one. Conditions: sizes. -/
namespace Go.Proofs.YtjkoafjnmkchdaaDoor
namespace Sh
set_option linter.unusedVariables false
set_option linter.unusedSimpArgs false
section
variable {P : Program} {t e : TypeId} {k B : Nat} {z : Value} {w : World} {s : Slc} {ty : TypeId} {xs ys news : List Value} {i : TypeInfo} {x : Value} {m len : Nat} {a : Addr}
/-- append to a slice without room. -/
theorem append_fullB (ht : P.underlying t = some (.slice e)) (hi : P.info? e = some i) (hz : i.zero = some z) (hzs : z.cells.size = i.size) (hm : 0 < m)
    (hlen : Builtin.lenOf x = pure m) (hcells : ∀ w' : World, w'.heap = w.heap → (Builtin.firstCells i.size m x).run P w' = .ok news.toArray w') (hl : news.length = m * i.size)
    (hx1 : xs.length = len * i.size) (holds : ∀ j v, xs[j]? = some v → w.cell? (a.add j) = some v) (hb : (len + m) * i.bytes ≤ 140737488355328) (h63 : len + m ≤ 9223372036854775807) :
    ∃ s' w', RunV P (Builtin.append_ #[t, t] ty #[Slc.v ⟨some a, len, len⟩, x]) w (Slc.v s') w' ∧ Row w' s' e i.size (xs ++ news) ∧ s'.len = len + m ∧ Ext (fun _ => False) w w' ∧ ∀ j, s'.own j → w.heap.size ≤ j := by
  have hlenr : (xs ++ news).length = (len + m) * i.size := by rw [List.length_append, hx1, hl, Nat.add_mul]
  have hd : w.drew.heap = w.heap := rfl
  refine ⟨⟨some ⟨w.heap.size, 0, none⟩, len + m, grownCap w (len + m) len e⟩, w.drew.alloc (.cells (xs.toArray ++ news.toArray ++ Builtin.zeroCells z.cells (grownCap w (len + m) len e - (len + m))) e), ?_, ⟨hlenr, .inr ⟨_, _, rfl, Blk.new w.drew _ e, grownCap_ge w (len + m) len e, ?_, ?_⟩⟩, rfl, ((Ext.refl _ w).drew).alloc _, fun j hj => ?_⟩
  · have hc := hcells w.drew hd
    have hf := growslice_fits (need := len + m) (old := len) (by omega) hb
    have hf' : ¬ (281474976710656 < Builtin.nextslicecap (len + m) len * i.bytes) := by omega
    have h6 : ¬ (9223372036854775807 < ((len : Int) + (m : Int))) := by omega
    have hroom : ¬ (len + m ≤ len) := by omega
    have hm0 : m ≠ 0 := by omega
    have hfo := run_firstCells_some (P := P) w.drew i.size len a len len xs hx1 (fun j v hj => by have := holds j v hj; simpa using this)
    simp [RunV, Slc.v, Builtin.append_, run_underlying ht, sizeOf, typeInfo, zeroValue, hi, hz, hlen, hroom, hm0, h6, hf', Question.forced, hfo, hc, newRow, grownCap] <;>
      (congr 2; apply Array.ext'; simp [List.append_assoc])
  · have hge := grownCap_ge w (len + m) len e
    simp only [Array.size_append, List.size_toArray, size_zeroCells, hzs, hx1, hl, ← Nat.add_mul]
    congr 1
    omega
  · simp only [Array.toList_append]
    rw [← hlenr]
    exact List.take_left
  · obtain ⟨a', ha, rfl⟩ := hj
    cases ha
    exact Nat.le_refl _
/-- append(empty, l...): nothing old is written. -/
theorem El.app0 {s2 : Slc} (h : El P t e k B z) (hk : 0 < k) (own : Row w s e k []) (hc : s.cap = 0) (h2 : VRow w s2 k ys) (h1 : ∀ v ∈ ys, v.oneCell' = true) (hb : s2.len * B ≤ 140737488355328) (h63 : s2.len ≤ 9223372036854775807) :
    ∃ s' w', RunV P (Builtin.append_ #[t, t] ty #[Slc.v s, Slc.v s2]) w (Slc.v s') w' ∧ Row w' s' e k ys ∧ s'.len = s2.len ∧ Ext (fun _ => False) w w' ∧ ∀ j, s'.own j → s.own j ∨ w.heap.size ≤ j := by
  have hl0 : s.len = 0 := by
    have := own.1
    rcases Nat.mul_eq_zero.1 this.symm with h0 | h0
    · exact h0
    · omega
  obtain ⟨p, len, cap⟩ := s
  simp only at hc hl0
  subst hc hl0
  cases p with
  | none =>
    obtain ⟨s', w', r1, r2, r3, r4, r5⟩ := h.app (ty := ty) (xs := []) own h2 h1 (by simpa using hb) (by simpa using h63)
    exact ⟨s', w', r1, by simpa using r2, by simpa using r3, r4.mono (fun j _ hj => by obtain ⟨a, ha, _⟩ := hj; cases ha), r5⟩
  | some a =>
    obtain ⟨i, hi, rfl, rfl, hz⟩ := h.info
    have hcells : ∀ w' : World, w'.heap = w.heap → (Builtin.firstCells i.size s2.len (Slc.v s2)).run P w' = .ok ys.toArray w' := fun w' hw' => by
      obtain ⟨p, len, cap⟩ := s2
      cases p with
      | none =>
        have hy : ys = [] := by
          cases ys with
          | nil => rfl
          | cons y r =>
            obtain ⟨a, ha, _⟩ := h2.2 0 y rfl
            cases ha
        subst hy
        have hl := h2.1
        simp only [List.length_nil] at hl
        exact run_firstCells_none (P := P) (w := w') _ _ _ _
      | some a =>
        refine run_firstCells_some w' i.size len a len cap ys h2.1 fun j v hj => ?_
        obtain ⟨a', ha, hc⟩ := h2.2 j v hj
        cases ha
        unfold World.cell? at hc ⊢
        rw [hw']
        exact hc
    by_cases hm : s2.len = 0
    · have hy : ys = [] := List.eq_nil_of_length_eq_zero (by have := h2.1; rw [hm] at this; simpa using this)
      subst hy
      refine ⟨⟨some a, 0, 0⟩, w, ?_, own, hm.symm, Ext.refl _ _, fun j hj => .inl hj⟩
      have hc := hcells w rfl
      have hlen : Builtin.lenOf (Slc.v s2) = pure 0 := by rw [← hm]; rfl
      rw [hm] at hc
      simp [RunV, Builtin.append_, run_underlying h.und, sizeOf, typeInfo, hi, hlen, hc, Slc.v] at *
      simp [RunV, Builtin.append_, run_underlying h.und, sizeOf, typeInfo, hi, hlen, hc, Slc.v, storeCells]
    · obtain ⟨s', w', r1, r2, r3, r4, r5⟩ := append_fullB (ty := ty) (a := a) (len := 0) (xs := []) (x := Slc.v s2) (m := s2.len) h.und hi hz h.cells (by omega) rfl hcells h2.1 (by simp) (fun j v hj => by cases hj) (by simpa using hb) (by simpa using h63)
      exact ⟨s', w', r1, by simpa using r2, by simpa using r3, r4, fun j hj => .inr (r5 j hj)⟩
end
end Sh
end Go.Proofs.YtjkoafjnmkchdaaDoor
