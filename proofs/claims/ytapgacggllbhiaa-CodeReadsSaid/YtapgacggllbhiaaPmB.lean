/- Package-merge: lengths, costs and the least cost, said plainly; no program in sight. No condition. -/
import Derived.Test.YtapgacggllbhiaaPmA
import Derived.Test.YtapgacggllbhiaaInC
namespace Go.Proofs.Ytapgacggllbhiaa
namespace Pm
open Inf
set_option linter.unusedVariables false
set_option linter.unusedSimpArgs false
/-- The leaves, in the order of their signs. -/
def lv (c : List Int) : Nat → List Tr
  | 0 => []
  | i + 1 => if 0 < c.getD i 0 then lv c i ++ [.leaf i (c.getD i 0)] else lv c i
theorem lv_mem {c : List Int} : ∀ {i : Nat} {t : Tr}, t ∈ lv c i ↔ ∃ s, s < i ∧ t = .leaf s (c.getD s 0) ∧ 0 < c.getD s 0
  | 0, t => ⟨fun h => by simp [lv] at h, fun ⟨s, h, _⟩ => by omega⟩
  | i + 1, t => by
    have ih := lv_mem (c := c) (i := i) (t := t)
    unfold lv
    split
    · rename_i hp
      rw [List.mem_append, ih, List.mem_singleton]
      constructor
      · rintro (⟨s, h1, h2⟩ | rfl)
        · exact ⟨s, by omega, h2⟩
        · exact ⟨i, by omega, rfl, hp⟩
      · rintro ⟨s, h1, h2, h3⟩
        by_cases e : s = i
        · subst e; exact .inr h2
        · exact .inl ⟨s, by omega, h2, h3⟩
    · rename_i hp
      rw [ih]
      constructor
      · rintro ⟨s, h1, h2⟩
        exact ⟨s, by omega, h2⟩
      · rintro ⟨s, h1, h2, h3⟩
        by_cases e : s = i
        · subst e; omega
        · exact ⟨s, by omega, h2, h3⟩
theorem lv_one (c : List Int) : ∀ i, ((lv c i).map Tr.sgn).Nodup
  | 0 => List.nodup_nil
  | i + 1 => by
    unfold lv
    split
    · rw [List.map_append]
      refine List.nodup_append.2 ⟨lv_one c i, by simp, fun a ha b hb e => ?_⟩
      obtain ⟨t, ht, rfl⟩ := List.mem_map.1 ha
      obtain ⟨s, hs, rfl, _⟩ := lv_mem.1 ht
      simp only [List.map_cons, List.map_nil, List.mem_singleton, Tr.sgn] at hb e
      omega
    · exact lv_one c i
theorem lv_len (c : List Int) : ∀ i, (lv c i).length ≤ i
  | 0 => Nat.le_refl _
  | i + 1 => by
    have := lv_len c i
    unfold lv
    split
    · rw [List.length_append]; simp; omega
    · omega
/-- Sorted leaves of a row of counts. -/
structure Sd (c : List Int) (S : List Tr) : Prop where
  perm : S.Perm (lv c c.length)
  up : Up S
theorem Sd.lv {c : List Int} {S : List Tr} (h : Sd c S) : Lv S :=
  ⟨fun t ht => by
    obtain ⟨s, _, e, h0⟩ := lv_mem.1 (h.perm.mem_iff.1 ht)
    exact ⟨s, _, e, h0⟩, h.up, (h.perm.map Tr.sgn).nodup_iff.2 (lv_one c _)⟩
theorem Sd.sign {c : List Int} {S : List Tr} (h : Sd c S) {r : Nat} (hr : r < S.length) : sg S r < c.length ∧ 0 < c.getD (sg S r) 0 ∧ S[r] = .leaf (sg S r) (c.getD (sg S r) 0) := by
  obtain ⟨s, h1, h2, h3⟩ := lv_mem.1 (h.perm.mem_iff.1 (List.getElem_mem hr))
  have e : sg S r = s := by
    unfold sg
    rw [List.getD_eq_getElem?_getD, List.getElem?_eq_getElem hr, Option.getD_some, h2]
    rfl
  rw [e]
  exact ⟨h1, h3, h2⟩
theorem Sd.rank {c : List Int} {S : List Tr} (h : Sd c S) {i : Nat} (hi : i < c.length) (h0 : 0 < c.getD i 0) : ∃ r, r < S.length ∧ sg S r = i := by
  have hm : Tr.leaf i (c.getD i 0) ∈ S := h.perm.mem_iff.2 (lv_mem.2 ⟨i, hi, rfl, h0⟩)
  obtain ⟨r, hr, e⟩ := List.mem_iff_getElem.1 hm
  refine ⟨r, hr, ?_⟩
  unfold sg
  rw [List.getD_eq_getElem?_getD, List.getElem?_eq_getElem hr, Option.getD_some, e]
  rfl
/-! ### Sums, in two orders -/
def gsum (g : Nat → Nat) : List Tr → Nat
  | [] => 0
  | t :: r => g t.sgn + gsum g r
theorem gsum_app (g : Nat → Nat) : ∀ l m, gsum g (l ++ m) = gsum g l + gsum g m
  | [], m => by simp [gsum]
  | t :: r, m => by
    have := gsum_app g r m
    simp only [List.cons_append, gsum]
    omega
theorem gsum_perm {g : Nat → Nat} {l m : List Tr} (h : l.Perm m) : gsum g l = gsum g m := by
  induction h with
  | nil => rfl
  | cons x _ ih => simp only [gsum]; omega
  | swap x y l => simp only [gsum]; omega
  | trans _ _ h1 h2 => omega
theorem gsum_sumR (g : Nat → Nat) (S : List Tr) : ∀ n, n ≤ S.length → gsum g (S.take n) = sumR (fun r => g (sg S r)) n
  | 0, _ => by simp [gsum, sumR]
  | n + 1, h => by
    have ih := gsum_sumR g S n (by omega)
    have ht : S.take (n + 1) = S.take n ++ [S[n]] := by rw [List.take_add_one, List.getElem?_eq_getElem (by omega)]; rfl
    have e : sg S n = (S[n]).sgn := by
      unfold sg
      rw [List.getD_eq_getElem?_getD, List.getElem?_eq_getElem (by omega), Option.getD_some]
    rw [ht, gsum_app, ih]
    simp only [sumR, gsum, e]
    omega
/-- The lengths that trees give. -/
def lensOf (T : List Tr) (n : Nat) : List Int := (List.range n).map fun i => (cs i T : Int)
theorem lensOf_len (T : List Tr) (n : Nat) : (lensOf T n).length = n := by unfold lensOf; simp
theorem lensOf_get {T : List Tr} {n i : Nat} (h : i < n) : (lensOf T n).getD i 0 = (cs i T : Int) := by
  unfold lensOf
  rw [List.getD_eq_getElem?_getD, List.getElem?_map, List.getElem?_range h]
  rfl
theorem kr_lens {c : List Int} {T : List Tr} {n : Nat} (hz : ∀ i, i < n → (0 < cs i T ↔ 0 < c.getD i 0)) : ∀ i, i ≤ n → kr (lensOf T n) i = (gsum (fun s => 2 ^ (15 - cs s T)) (lv c i) : Nat)
  | 0, _ => rfl
  | i + 1, h => by
    have ih := kr_lens hz i (by omega)
    have hi := hz i (by omega)
    show (if 0 < (lensOf T n).getD i 0 then kr (lensOf T n) i + 2 ^ (15 - ((lensOf T n).getD i 0).toNat) else kr (lensOf T n) i) = _
    rw [lensOf_get (by omega)]
    unfold lv
    by_cases h0 : 0 < c.getD i 0
    · have := hi.2 h0
      rw [if_pos (by omega), if_pos h0, gsum_app, ih]
      simp [gsum, Tr.sgn]
    · have : ¬ 0 < cs i T := fun hh => h0 (hi.1 hh)
      rw [if_neg (by omega), if_neg h0, ih]
theorem chk_of {l : List Int} (hl : l.length ≤ 288) (hb : ∀ i, i < l.length → 0 ≤ l.getD i 0 ∧ l.getD i 0 ≤ 15) (h : kr l l.length = 32768 ∨ kr l l.length = 0 ∨ (usedT l l.length = 1 ∧ longT l l.length = 1)) : chk l = 0 := by
  unfold chk
  rw [if_neg (by omega), if_neg, if_pos h]
  intro ha
  obtain ⟨x, hx, hh⟩ := List.any_eq_true.1 ha
  obtain ⟨i, hi, rfl⟩ := List.mem_iff_getElem.1 hx
  have := hb i hi
  rw [List.getD_eq_getElem?_getD, List.getElem?_eq_getElem hi, Option.getD_some] at this
  simp only [Bool.or_eq_true, decide_eq_true_eq] at hh
  omega
/-! ### Costs -/
def costF (l c : List Int) : Nat → Int
  | 0 => 0
  | i + 1 => if 0 ≤ l.getD i 0 ∧ l.getD i 0 ≤ 15 ∧ 0 ≤ c.getD i 0 ∧ c.getD i 0 ≤ 2147483647 then costF l c i + l.getD i 0 * c.getD i 0 else costF l c i
def sumI (f : Nat → Int) : Nat → Int
  | 0 => 0
  | n + 1 => sumI f n + f n
theorem sumI_add (f g : Nat → Int) : ∀ n, sumI (fun i => f i + g i) n = sumI f n + sumI g n
  | 0 => rfl
  | n + 1 => by
    have := sumI_add f g n
    simp only [sumI]
    omega
theorem sumI_congr {f g : Nat → Int} : ∀ n, (∀ i, i < n → f i = g i) → sumI f n = sumI g n
  | 0, _ => rfl
  | n + 1, h => by
    have := sumI_congr n fun i hi => h i (by omega)
    have := h n (by omega)
    simp only [sumI]
    omega
theorem sumI_one (s : Nat) (x : Nat → Int) : ∀ n, sumI (fun i => ((if s = i then 1 else 0 : Nat) : Int) * x i) n = if s < n then x s else 0
  | 0 => rfl
  | n + 1 => by
    have := sumI_one s x n
    simp only [sumI]
    rw [this]
    by_cases e : s = n
    · subst e
      rw [if_neg (by omega), if_pos rfl, if_pos (by omega)]
      simp
    · rw [if_neg e]
      split <;> split <;> first | omega | simp
def Tr.ok (c : List Int) : Tr → Prop
  | .leaf s w => s < c.length ∧ w = c.getD s 0
  | .node a b => a.ok c ∧ b.ok c
theorem Tr.cost {c : List Int} : ∀ {t : Tr}, t.ok c → t.w = sumI (fun i => (t.cnt i : Int) * c.getD i 0) c.length
  | .leaf s w, ⟨h1, h2⟩ => by
    simp only [Tr.w, Tr.cnt]
    rw [sumI_one s (fun i => c.getD i 0), if_pos h1, h2]
  | .node a b, ⟨h1, h2⟩ => by
    have e1 := Tr.cost h1
    have e2 := Tr.cost h2
    simp only [Tr.w, Tr.cnt]
    rw [e1, e2, ← sumI_add]
    refine sumI_congr _ fun i _ => ?_
    rw [Int.natCast_add, Int.add_mul]
theorem ws_cost {c : List Int} : ∀ {T : List Tr}, (∀ t ∈ T, t.ok c) → ws T = sumI (fun i => (cs i T : Int) * c.getD i 0) c.length
  | [], _ => by
    have : ∀ n, sumI (fun i => (cs i [] : Int) * c.getD i 0) n = 0 := fun n => by
      induction n with
      | zero => rfl
      | succ n ih =>
        show sumI (fun i => (cs i [] : Int) * c.getD i 0) n + _ = 0
        rw [ih]
        simp [cs]
    rw [this]
    rfl
  | t :: r, h => by
    simp only [ws, cs]
    rw [Tr.cost (h t (by simp)), ws_cost fun t ht => h t (by simp [ht]), ← sumI_add]
    refine sumI_congr _ fun i _ => ?_
    rw [Int.natCast_add, Int.add_mul]
theorem cost_lens {c : List Int} {T : List Tr} (hc : ∀ i, i < c.length → 0 ≤ c.getD i 0 ∧ c.getD i 0 ≤ 2147483647) (hT : ∀ i, i < c.length → cs i T ≤ 15) : ∀ i, i ≤ c.length → costF (lensOf T c.length) c i = sumI (fun i => (cs i T : Int) * c.getD i 0) i
  | 0, _ => rfl
  | i + 1, h => by
    have ih := cost_lens hc hT i (by omega)
    have h1 := hc i (by omega)
    have h2 := hT i (by omega)
    simp only [costF, sumI]
    rw [lensOf_get (by omega), if_pos (by omega), ih]
theorem rows_ok {c : List Int} {S : List Tr} (h : Sd c S) : ∀ k, ∀ t ∈ rows S k, t.ok c
  | 0, t, ht => by
    obtain ⟨s, h1, rfl, _⟩ := lv_mem.1 (h.perm.mem_iff.1 ht)
    exact ⟨h1, rfl⟩
  | k + 1, t, ht => by
    rcases List.mem_append.1 ((mg_perm _ _).mem_iff.1 ht) with h1 | h1
    · obtain ⟨s, h2, rfl, _⟩ := lv_mem.1 (h.perm.mem_iff.1 h1)
      exact ⟨h2, rfl⟩
    · obtain ⟨a, ha, b, hb, rfl⟩ := prs_mem _ _ h1
      exact ⟨rows_ok h k a ha, rows_ok h k b hb⟩
/-! ### Numbers alone -/
abbrev UpI (l : List Int) : Prop := l.Pairwise fun a b => a ≤ b
def leI (a b : Int) : Bool := decide (a ≤ b)
def prI : List Int → List Int
  | a :: b :: r => (a + b) :: prI r
  | _ => []
def rI (s : List Int) : Nat → List Int
  | 0 => s
  | k + 1 => List.merge s (prI (rI s k)) leI
def isum : List Int → Int
  | [] => 0
  | x :: r => x + isum r
theorem isum_app : ∀ l m, isum (l ++ m) = isum l + isum m
  | [], m => by simp [isum]
  | t :: r, m => by
    have := isum_app r m
    simp only [List.cons_append, isum]
    omega
theorem prI_map : ∀ l : List Tr, (prs l).map Tr.w = prI (l.map Tr.w)
  | [] => rfl
  | [_] => rfl
  | a :: b :: r => by
    have := prI_map r
    simp only [prs, List.map_cons, prI, this]
    rfl
theorem rI_map (S : List Tr) : ∀ k, (rows S k).map Tr.w = rI (S.map Tr.w) k
  | 0 => rfl
  | k + 1 => by
    show (mg S (prs (rows S k))).map Tr.w = List.merge (S.map Tr.w) (prI (rI (S.map Tr.w) k)) leI
    rw [← rI_map S k, ← prI_map]
    unfold mg
    exact List.map_merge fun a _ b _ => rfl
theorem ws_map : ∀ l : List Tr, ws l = isum (l.map Tr.w)
  | [] => rfl
  | t :: r => by
    have := ws_map r
    simp only [ws, List.map_cons, isum, this]
theorem upI_unique {l m : List Int} (h : UpI l) (k : UpI m) (p : l.Perm m) : l = m := by
  refine p.eq_of_pairwise (le := fun a b => a ≤ b) (fun a b _ _ h k => by omega) h k
theorem rI_up {s : List Int} (h : UpI s) : ∀ k, UpI (rI s k)
  | 0 => h
  | k + 1 => by
    have hp : ∀ l : List Int, UpI l → UpI (prI l) := fun l => by
      intro h
      induction l using prI.induct with
      | case1 a b r ih =>
        obtain ⟨h1, h2⟩ := List.pairwise_cons.1 h
        obtain ⟨h3, h4⟩ := List.pairwise_cons.1 h2
        have hm : ∀ (l : List Int) (t : Int), t ∈ prI l → ∃ x ∈ l, ∃ y ∈ l, t = x + y := fun l => by
          induction l using prI.induct with
          | case1 a b r ih =>
            intro t ht
            simp only [prI, List.mem_cons] at ht
            rcases ht with rfl | ht
            · exact ⟨a, by simp, b, by simp, rfl⟩
            · obtain ⟨x, hx, y, hy, e⟩ := ih t ht
              exact ⟨x, by simp [hx], y, by simp [hy], e⟩
          | case2 l hl => intro t ht; rw [prI] at ht; cases ht; exact hl
        refine List.pairwise_cons.2 ⟨fun t ht => ?_, ih h4⟩
        obtain ⟨x, hx, y, hy, rfl⟩ := hm r t ht
        have := h1 x (by simp [hx])
        have := h3 y hy
        omega
      | case2 l hl => rw [prI]; exact List.Pairwise.nil; exact hl
    have := List.pairwise_merge (le := leI) (fun a b c h1 h2 => by simp only [leI, decide_eq_true_eq] at *; omega) (fun a b => by simp only [leI, Bool.or_eq_true, decide_eq_true_eq]; omega) s (prI (rI s k))
      (h.imp fun h => by simpa [leI] using h) ((hp _ (rI_up h k)).imp fun h => by simpa [leI] using h)
    exact this.imp fun h => by simpa [leI] using h
/-- The counts that are, sorted. -/
def srt (c : List Int) : List Int := (c.filter fun x => decide (0 < x)).mergeSort leI
theorem srt_up (c : List Int) : UpI (srt c) := by
  have := List.pairwise_mergeSort (le := leI) (fun a b c h1 h2 => by simp only [leI, decide_eq_true_eq] at *; omega) (fun a b => by simp only [leI, Bool.or_eq_true, decide_eq_true_eq]; omega) (c.filter fun x => decide (0 < x))
  exact this.imp fun h => by simpa [leI] using h
theorem lv_map (c : List Int) : ∀ i, i ≤ c.length → (lv c i).map Tr.w = (c.take i).filter fun x => decide (0 < x)
  | 0, _ => rfl
  | i + 1, h => by
    have ih := lv_map c i (by omega)
    have ht : c.take (i + 1) = c.take i ++ [c[i]] := by rw [List.take_add_one, List.getElem?_eq_getElem (by omega)]; rfl
    have e : c.getD i 0 = c[i] := by rw [List.getD_eq_getElem?_getD, List.getElem?_eq_getElem (by omega)]; rfl
    rw [ht, List.filter_append, ← ih, lv, e]
    split
    · rename_i h0
      rw [List.map_append]
      simp [h0, Tr.w]
    · rename_i h0
      simp [h0]
theorem srt_eq {c s : List Int} (hs : UpI s) (hp : s.Perm (c.filter fun x => decide (0 < x))) : s = srt c :=
  upI_unique hs (srt_up c) (hp.trans (List.mergeSort_perm _ _).symm)
theorem Sd.map {c : List Int} {S : List Tr} (h : Sd c S) : S.map Tr.w = srt c := by
  refine srt_eq (List.pairwise_map.2 h.up) ?_
  have := h.perm.map Tr.w
  rw [lv_map c _ (Nat.le_refl _), List.take_length] at this
  exact this
theorem Sd.len {c : List Int} {S : List Tr} (h : Sd c S) : S.length = (srt c).length := by rw [← h.map, List.length_map]
/-- The least cost. -/
def least (c : List Int) (most : Nat) : Int := if (srt c).length < 2 then (srt c).getD 0 0 else isum ((rI (srt c) (most - 1)).take (2 * (srt c).length - 2))
/-- Why counts have no lengths. -/
def why (c : List Int) (most : Int) : Int := if 288 < c.length then 6 else if most < 1 ∨ 15 < most then 1 else if c.any (fun x => decide (x < 0) || decide (2147483647 < x)) = true then 1
  else if 2 ^ most.toNat < (srt c).length then 13 else 0
/-- What Lengths answers. -/
structure LR (c : List Int) (mo : Nat) (l : List Int) : Prop where
  len : l.length = c.length
  chk : chk l = 0
  most : ∀ i, i < c.length → 0 ≤ l.getD i 0 ∧ l.getD i 0 ≤ (mo : Int) ∧ (l.getD i 0 = 0 ↔ c.getD i 0 = 0)
  cost : costF l c c.length = least c mo
/-- Two leaves or more. -/
theorem LR.many {c : List Int} {S : List Tr} {most : Nat} (h : Sd c S) (h288 : c.length ≤ 288) (hc : ∀ i, i < c.length → 0 ≤ c.getD i 0 ∧ c.getD i 0 ≤ 2147483647) (h1 : 1 ≤ most) (h15 : most ≤ 15) (h2 : 2 ≤ S.length) (hm : S.length ≤ 2 ^ most) :
    2 * S.length - 2 ≤ (rows S (most - 1)).length ∧ LR c most (lensOf ((rows S (most - 1)).take (2 * S.length - 2)) c.length) := by
  have hlong := rows_long (S := S) (most - 1) most hm (by omega)
  rw [show most - (most - 1) = 1 by omega] at hlong
  have hl : 2 * S.length - 2 ≤ (rows S (most - 1)).length := by omega
  obtain ⟨D, d1, d2, d3, d4⟩ := lengths h.lv (k := most - 1) (by omega) h2 hl
  generalize hT : (rows S (most - 1)).take (2 * S.length - 2) = T at d2 d3 ⊢
  have key : ∀ i, i < c.length → cs i T ≤ most ∧ (0 < cs i T ↔ 0 < c.getD i 0) := fun i hi => by
    by_cases h0 : 0 < c.getD i 0
    · obtain ⟨r, hr, rfl⟩ := h.rank hi h0
      have := d1 r hr
      rw [d2 r hr]
      exact ⟨by omega, fun _ => h0, fun _ => this.1⟩
    · have : cs i T = 0 := d3 i fun r hr e => h0 (by rw [← e]; exact (h.sign hr).2.1)
      rw [this]
      exact ⟨Nat.zero_le _, fun hh => by omega, fun hh => absurd hh h0⟩
  refine ⟨hl, lensOf_len _ _, chk_of (by rw [lensOf_len]; exact h288) (fun i hi => ?_) (.inl ?_), fun i hi => ?_, ?_⟩
  · rw [lensOf_len] at hi
    rw [lensOf_get hi]
    have := (key i hi).1
    omega
  · rw [lensOf_len, kr_lens (c := c) (fun i hi => (key i hi).2) _ (Nat.le_refl _), ← gsum_perm h.perm]
    have e := gsum_sumR (fun s => 2 ^ (15 - cs s T)) S S.length (Nat.le_refl _)
    rw [List.take_length] at e
    rw [e]
    have e2 : ∀ n, n ≤ S.length → sumR (fun r => 2 ^ (15 - cs (sg S r) T)) n = sumR (fun r => 2 ^ (15 - D r)) n := fun n => by
      induction n with
      | zero => intro _; rfl
      | succ n ih =>
        intro hn
        simp only [sumR]
        rw [ih (by omega), d2 n (by omega)]
    rw [e2 _ (Nat.le_refl _), d4]
    rfl
  · rw [lensOf_get hi]
    have := key i hi
    have := hc i hi
    omega
  · rw [cost_lens hc (fun i hi => by have := (key i hi).1; omega) _ (Nat.le_refl _), ← ws_cost (T := T) (fun t ht => rows_ok h (most - 1) t (by rw [← hT] at ht; exact List.mem_of_mem_take ht)), ws_map, ← hT, List.map_take, rI_map, h.map]
    unfold least
    rw [if_neg (by rw [← h.len]; omega), h.len]
theorem cs_le {S : List Tr} (h : Lv S) {k m : Nat} (hk : k ≤ 14) (hm : m ≤ (rows S k).length) (i : Nat) : cs i ((rows S k).take m) ≤ 15 := by
  obtain ⟨A, D, b1, b2, b3, b4, b5, b6, b7⟩ := kraft h k hk m hm
  by_cases e : ∃ r, r < S.length ∧ sg S r = i
  · obtain ⟨r, hr, rfl⟩ := e
    rw [b5 r hr]
    have := (b3 r hr).1
    omega
  · rw [b6 i fun r hr hh => e ⟨r, hr, hh⟩]
    exact Nat.zero_le _
theorem rows_short (S : List Tr) : ∀ k, (rows S k).length ≤ 2 * S.length
  | 0 => by show S.length ≤ _; omega
  | k + 1 => by
    have := rows_short S k
    rw [rows_len]
    omega
theorem ws_le {B : Int} : ∀ {l : List Tr}, (∀ t ∈ l, t.w ≤ B) → ws l ≤ (l.length : Int) * B
  | [], _ => by simp [ws]
  | t :: r, h => by
    have h1 := h t (by simp)
    have h2 := ws_le fun t ht => h t (List.mem_cons_of_mem _ ht)
    simp only [ws, List.length_cons]
    rw [Int.natCast_add, Int.add_mul]
    omega
theorem ws_nn : ∀ {l : List Tr}, (∀ t ∈ l, 0 ≤ t.w) → 0 ≤ ws l
  | [], _ => Int.le_refl _
  | t :: r, h => by
    have h1 := h t (by simp)
    have h2 := ws_nn fun t ht => h t (List.mem_cons_of_mem _ ht)
    simp only [ws]
    omega
/-- No weight is great. -/
theorem rows_w {c : List Int} {S : List Tr} (h : Sd c S) (h288 : c.length ≤ 288) (hc : ∀ i, i < c.length → 0 ≤ c.getD i 0 ∧ c.getD i 0 ≤ 2147483647) {k : Nat} (hk : k ≤ 14) : ∀ t ∈ rows S k, 0 ≤ t.w ∧ t.w ≤ 1000000000000000 := fun t ht => by
  have h0 := rows_pos h.lv k
  have h1 := ws_mem (fun t ht => Int.le_of_lt (h0 t ht)) t ht
  have h2 := rows_ws h.lv k
  have h3 : ws S ≤ (S.length : Int) * 2147483647 := ws_le fun t ht => by
    obtain ⟨s, h1, rfl, h2⟩ := lv_mem.1 (h.perm.mem_iff.1 ht)
    exact (hc s h1).2
  have h4 : S.length ≤ 288 := by
    have := lv_len c c.length
    rw [h.perm.length_eq]
    omega
  have h5 : 0 ≤ ws S := ws_nn fun t ht => Int.le_of_lt (rows_pos h.lv 0 t ht)
  have h6 : ((k + 1 : Nat) : Int) * ws S ≤ 15 * ws S := Int.mul_le_mul_of_nonneg_right (by omega) h5
  exact ⟨Int.le_of_lt (h0 t ht), by omega⟩
theorem lv_srt (c : List Int) : (lv c c.length).length = (srt c).length := by
  have := congrArg List.length (lv_map c _ (Nat.le_refl _))
  rw [List.length_map, List.take_length] at this
  rw [this]
  unfold srt
  rw [List.length_mergeSort]
/-- None, or one. -/
theorem LR.none {c : List Int} {S : List Tr} {most : Nat} (h : Sd c S) (h288 : c.length ≤ 288) (hc : ∀ i, i < c.length → 0 ≤ c.getD i 0 ∧ c.getD i 0 ≤ 2147483647) (h1 : 1 ≤ most) (hS : S.length ≤ 1) : LR c most (lensOf S c.length) := by
  have hle : ∀ i, cs i S ≤ 1 := fun i => by
    match S, hS, h with
    | [], _, _ => simp [cs]
    | [t], _, h =>
      obtain ⟨s, w, rfl, _⟩ := h.lv.leaf t (by simp)
      simp only [cs, Tr.cnt]
      split <;> omega
  have key : ∀ i, i < c.length → (0 < cs i S ↔ 0 < c.getD i 0) := fun i hi => by
    have hh := h.lv.cs_take i S.length (Nat.le_refl _)
    rw [List.take_length] at hh
    by_cases h0 : 0 < c.getD i 0
    · obtain ⟨r, hr, rfl⟩ := h.rank hi h0
      rw [hh.1 r hr rfl, if_pos hr]
      exact ⟨fun _ => h0, fun _ => by decide⟩
    · rw [hh.2 fun r hr e => h0 (by rw [← e]; exact (h.sign hr).2.1)]
      exact ⟨fun hh => by omega, fun hh => absurd hh h0⟩
  refine ⟨lensOf_len _ _, chk_of (by rw [lensOf_len]; exact h288) (fun i hi => ?_) ?_, fun i hi => ?_, ?_⟩
  · rw [lensOf_len] at hi
    rw [lensOf_get hi]
    have := hle i
    omega
  · rw [lensOf_len]
    match S, hS, h with
    | [], _, _ =>
      refine .inr (.inl ?_)
      have : ∀ i, i ≤ c.length → kr (lensOf [] c.length) i = 0 := fun i => by
        induction i with
        | zero => intro _; rfl
        | succ i ih =>
          intro hi
          show (if 0 < (lensOf [] c.length).getD i 0 then _ else kr (lensOf [] c.length) i) = 0
          rw [lensOf_get (by omega), if_neg (by simp [cs]), ih (by omega)]
      exact this _ (Nat.le_refl _)
    | [t], _, h =>
      refine .inr (.inr ?_)
      obtain ⟨q1, q2, q3⟩ := h.sign (r := 0) (by simp)
      generalize hs : sg [t] 0 = s at q1 q2 q3
      have q3 : t = Tr.leaf s (c.getD s 0) := q3
      subst q3
      have hcs : ∀ i, cs i [Tr.leaf s (c.getD s 0)] = if s = i then 1 else 0 := fun i => by simp [cs, Tr.cnt]
      have : ∀ i, i ≤ c.length → usedT (lensOf [Tr.leaf s (c.getD s 0)] c.length) i = (if s < i then 1 else 0) ∧ longT (lensOf [Tr.leaf s (c.getD s 0)] c.length) i = (if s < i then 1 else 0) := fun i => by
        induction i with
        | zero => intro _; exact ⟨rfl, rfl⟩
        | succ i ih =>
          intro hi
          obtain ⟨i1, i2⟩ := ih (by omega)
          have e1 : usedT (lensOf [Tr.leaf s (c.getD s 0)] c.length) (i + 1) = if (lensOf [Tr.leaf s (c.getD s 0)] c.length).getD i 0 ≠ 0 then usedT (lensOf [Tr.leaf s (c.getD s 0)] c.length) i + 1 else usedT (lensOf [Tr.leaf s (c.getD s 0)] c.length) i := rfl
          have e2 : longT (lensOf [Tr.leaf s (c.getD s 0)] c.length) (i + 1) = if (lensOf [Tr.leaf s (c.getD s 0)] c.length).getD i 0 > longT (lensOf [Tr.leaf s (c.getD s 0)] c.length) i then (lensOf [Tr.leaf s (c.getD s 0)] c.length).getD i 0 else longT (lensOf [Tr.leaf s (c.getD s 0)] c.length) i := rfl
          rw [e1, e2, i1, i2, lensOf_get (by omega), hcs]
          rcases Nat.lt_trichotomy s i with e | e | e
          · have a1 : s ≠ i := by omega
            have a2 : s < i + 1 := by omega
            simp [a1, e, a2]
          · subst e
            simp
          · have a1 : s ≠ i := by omega
            have a2 : ¬ s < i + 1 := by omega
            have a3 : ¬ s < i := by omega
            simp [a1, a2, a3]
      have := this _ (Nat.le_refl _)
      rw [if_pos q1] at this
      exact this
  · rw [lensOf_get hi]
    have := key i hi
    have := hle i
    have := hc i hi
    omega
  · rw [cost_lens hc (fun i hi => by have := hle i; omega) _ (Nat.le_refl _), ← ws_cost (T := S) (fun t ht => rows_ok h 0 t ht), ws_map, h.map]
    have hl := h.len
    unfold least
    rw [if_pos (by omega)]
    match he : srt c, hl with
    | [], _ => rfl
    | [x], _ => simp [isum]
    | x :: y :: r, hl => simp only [List.length_cons] at hl; omega
end Pm
end Go.Proofs.Ytapgacggllbhiaa
