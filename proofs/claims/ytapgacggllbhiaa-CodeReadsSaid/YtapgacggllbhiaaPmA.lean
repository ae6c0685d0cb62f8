/- Package-merge: rows of trees, what is taken of them is a code's lengths; plain laws, no program in sight. No condition. -/
import Derived.Test.YtapgacggllbhiaaBitM
namespace Go.Proofs.Ytapgacggllbhiaa
namespace Pm
set_option linter.unusedVariables false
set_option linter.unusedSimpArgs false
/-- A coin, as a tree. -/
inductive Tr where
  | leaf (sign : Nat) (wt : Int)
  | node (a b : Tr)
instance : Inhabited Tr := ⟨.leaf 0 0⟩
def Tr.w : Tr → Int
  | .leaf _ w => w
  | .node a b => a.w + b.w
def Tr.cnt (i : Nat) : Tr → Nat
  | .leaf s _ => if s = i then 1 else 0
  | .node a b => a.cnt i + b.cnt i
def Tr.sgn : Tr → Nat
  | .leaf s _ => s
  | .node _ _ => 0
/-- Two by two. -/
def prs : List Tr → List Tr
  | a :: b :: r => .node a b :: prs r
  | _ => []
abbrev Up (l : List Tr) : Prop := l.Pairwise fun a b => a.w ≤ b.w
def le (a b : Tr) : Bool := decide (a.w ≤ b.w)
def mg (l m : List Tr) : List Tr := List.merge l m le
def cs (i : Nat) : List Tr → Nat
  | [] => 0
  | t :: r => t.cnt i + cs i r
def ws : List Tr → Int
  | [] => 0
  | t :: r => t.w + ws r
theorem cs_app (i : Nat) : ∀ l m, cs i (l ++ m) = cs i l + cs i m
  | [], m => by simp [cs]
  | t :: r, m => by
    have := cs_app i r m
    simp only [List.cons_append, cs]
    omega
theorem ws_app : ∀ l m, ws (l ++ m) = ws l + ws m
  | [], m => by simp [ws]
  | t :: r, m => by
    have := ws_app r m
    simp only [List.cons_append, ws]
    omega
theorem cs_perm {i : Nat} {l m : List Tr} (h : l.Perm m) : cs i l = cs i m := by
  induction h with
  | nil => rfl
  | cons x _ ih => simp only [cs]; omega
  | swap x y l => simp only [cs]; omega
  | trans _ _ h1 h2 => omega
theorem ws_perm {l m : List Tr} (h : l.Perm m) : ws l = ws m := by
  induction h with
  | nil => rfl
  | cons x _ ih => simp only [ws]; omega
  | swap x y l => simp only [ws]; omega
  | trans _ _ h1 h2 => omega
theorem mg_nil_left (l : List Tr) : mg [] l = l := by unfold mg; simp [List.merge]
theorem mg_nil_right (l : List Tr) : mg l [] = l := by unfold mg; cases l <;> simp [List.merge]
theorem mg_pos {a b : Tr} {l m : List Tr} (h : a.w ≤ b.w) : mg (a :: l) (b :: m) = a :: mg l (b :: m) := by
  unfold mg
  exact List.cons_merge_cons_pos _ _ _ (by simpa [le] using h)
theorem mg_neg {a b : Tr} {l m : List Tr} (h : ¬ a.w ≤ b.w) : mg (a :: l) (b :: m) = b :: mg (a :: l) m := by
  unfold mg
  exact List.cons_merge_cons_neg _ _ _ (by simpa [le] using h)
theorem mg_perm (l m : List Tr) : (mg l m).Perm (l ++ m) := List.merge_perm_append _
theorem mg_up {l m : List Tr} (h : Up l) (k : Up m) : Up (mg l m) := by
  have := List.pairwise_merge (le := le) (fun a b c h1 h2 => by simp only [le, decide_eq_true_eq] at *; omega) (fun a b => by simp only [le, Bool.or_eq_true, decide_eq_true_eq]; omega) l m
    (h.imp fun h => by simpa [le] using h) (k.imp fun h => by simpa [le] using h)
  exact this.imp fun h => by simpa [le] using h
theorem mg_len (l m : List Tr) : (mg l m).length = l.length + m.length := by rw [(mg_perm l m).length_eq, List.length_append]
/-- What is first of a merged row is first of both. -/
theorem mg_cut : ∀ (n : Nat) (l m : List Tr), n ≤ l.length + m.length → ∃ A K, A + K = n ∧ A ≤ l.length ∧ K ≤ m.length ∧ ((mg l m).take n).Perm (l.take A ++ m.take K) ∧ ((mg l m).drop n).Perm (l.drop A ++ m.drop K)
  | 0, l, m, _ => ⟨0, 0, rfl, Nat.zero_le _, Nat.zero_le _, by simp, by simpa using mg_perm l m⟩
  | n + 1, [], m, h => ⟨0, n + 1, by omega, Nat.le_refl _, by simpa using h, by rw [mg_nil_left]; simp, by rw [mg_nil_left]; simp⟩
  | n + 1, a :: l, [], h => ⟨n + 1, 0, by omega, by simpa using h, Nat.le_refl _, by rw [mg_nil_right]; simp, by rw [mg_nil_right]; simp⟩
  | n + 1, a :: l, b :: m, h => by
    simp only [List.length_cons] at h
    by_cases hab : a.w ≤ b.w
    · obtain ⟨A, K, h1, h2, h3, h4, h5⟩ := mg_cut n l (b :: m) (by simp only [List.length_cons]; omega)
      rw [mg_pos hab]
      exact ⟨A + 1, K, by omega, by simp only [List.length_cons]; omega, h3, by simpa using h4, by simpa using h5⟩
    · obtain ⟨A, K, h1, h2, h3, h4, h5⟩ := mg_cut n (a :: l) m (by simp only [List.length_cons]; omega)
      rw [mg_neg hab]
      refine ⟨A, K + 1, by omega, h2, by simp only [List.length_cons]; omega, ?_, by simpa using h5⟩
      simp only [List.take_succ_cons]
      exact (List.Perm.cons b h4).trans List.perm_middle.symm
theorem prs_len : ∀ l : List Tr, (prs l).length = l.length / 2
  | [] => rfl
  | [_] => by simp [prs]
  | a :: b :: r => by
    have := prs_len r
    simp only [prs, List.length_cons, this]
    omega
theorem prs_take : ∀ (K : Nat) (l : List Tr), prs (l.take (2 * K)) = (prs l).take K
  | 0, l => by simp [prs]
  | K + 1, [] => by simp [prs]
  | K + 1, [a] => by
    rw [show 2 * (K + 1) = 2 * K + 1 + 1 by omega]
    simp [prs]
  | K + 1, a :: b :: r => by
    rw [show 2 * (K + 1) = 2 * K + 1 + 1 by omega]
    simp only [List.take_succ_cons, prs]
    rw [prs_take K r]
theorem prs_get : ∀ (K : Nat) (l : List Tr) (p : Tr), (prs l)[K]? = some p → ∃ x y, l[2 * K]? = some x ∧ l[2 * K + 1]? = some y ∧ p = .node x y
  | K, [], p, h => by simp [prs] at h
  | K, [a], p, h => by simp [prs] at h
  | 0, a :: b :: r, p, h => ⟨a, b, rfl, rfl, by simpa [prs] using h.symm⟩
  | K + 1, a :: b :: r, p, h => by
    obtain ⟨x, y, h1, h2, h3⟩ := prs_get K r p (by simpa [prs] using h)
    refine ⟨x, y, ?_, ?_, h3⟩
    · rw [show 2 * (K + 1) = 2 * K + 1 + 1 by omega]
      simpa using h1
    · rw [show 2 * (K + 1) + 1 = 2 * K + 1 + 1 + 1 by omega]
      simpa using h2
theorem prs_cs (i : Nat) : ∀ l : List Tr, l.length % 2 = 0 → cs i (prs l) = cs i l
  | [], _ => rfl
  | [_], h => by simp at h
  | a :: b :: r, h => by
    have := prs_cs i r (by simp only [List.length_cons] at h; omega)
    simp only [prs, cs, Tr.cnt]
    omega
theorem prs_ws : ∀ l : List Tr, (∀ t ∈ l, 0 ≤ t.w) → ws (prs l) ≤ ws l
  | [], _ => Int.le_refl _
  | [a], h => by
    have := h a (by simp)
    simp only [prs, ws]
    omega
  | a :: b :: r, h => by
    have := prs_ws r fun t ht => h t (by simp [ht])
    simp only [prs, ws, Tr.w]
    omega
theorem prs_mem : ∀ (l : List Tr) (t : Tr), t ∈ prs l → ∃ a ∈ l, ∃ b ∈ l, t = .node a b
  | [], t, h => by simp [prs] at h
  | [_], t, h => by simp [prs] at h
  | a :: b :: r, t, h => by
    simp only [prs, List.mem_cons] at h
    rcases h with rfl | h
    · exact ⟨a, by simp, b, by simp, rfl⟩
    · obtain ⟨x, hx, y, hy, e⟩ := prs_mem r t h
      exact ⟨x, by simp [hx], y, by simp [hy], e⟩
theorem prs_up : ∀ l : List Tr, Up l → Up (prs l)
  | [], _ => List.Pairwise.nil
  | [_], _ => List.Pairwise.nil
  | a :: b :: r, h => by
    obtain ⟨h1, h2⟩ := List.pairwise_cons.1 h
    obtain ⟨h3, h4⟩ := List.pairwise_cons.1 h2
    refine List.pairwise_cons.2 ⟨fun t ht => ?_, prs_up r h4⟩
    obtain ⟨x, hx, y, hy, rfl⟩ := prs_mem r t ht
    have := h1 x (by simp [hx])
    have := h3 y hy
    simp only [Tr.w]
    omega
/-- The rows, from the bottom. -/
def rows (S : List Tr) : Nat → List Tr
  | 0 => S
  | k + 1 => mg S (prs (rows S k))
theorem rows_len (S : List Tr) (k : Nat) : (rows S (k + 1)).length = S.length + (rows S k).length / 2 := by
  show (mg S (prs (rows S k))).length = _
  rw [mg_len, prs_len]
theorem rows_up {S : List Tr} (h : Up S) : ∀ k, Up (rows S k)
  | 0 => h
  | k + 1 => mg_up h (prs_up _ (rows_up h k))
/-- A row is long enough. -/
theorem rows_long {S : List Tr} : ∀ (k m : Nat), S.length ≤ 2 ^ m → k ≤ m → 2 * S.length ≤ (rows S k).length + 2 ^ (m - k)
  | 0, m, h, _ => by show 2 * S.length ≤ S.length + 2 ^ (m - 0); rw [Nat.sub_zero]; omega
  | k + 1, m, h, hk => by
    have ih := rows_long k m h (by omega)
    have e : 2 ^ (m - k) = 2 * 2 ^ (m - (k + 1)) := by
      rw [show m - k = (m - (k + 1)) + 1 by omega, Nat.pow_succ]
      omega
    rw [rows_len]
    omega
/-- The leaves: sorted, each sign once, each weight positive. -/
structure Lv (S : List Tr) : Prop where
  leaf : ∀ t ∈ S, ∃ s w, t = .leaf s w ∧ 0 < w
  up : Up S
  one : (S.map Tr.sgn).Nodup
theorem rows_pos {S : List Tr} (h : Lv S) : ∀ k, ∀ t ∈ rows S k, 0 < t.w
  | 0, t, ht => by
    obtain ⟨s, w, rfl, h0⟩ := h.leaf t ht
    exact h0
  | k + 1, t, ht => by
    rcases List.mem_append.1 ((mg_perm _ _).mem_iff.1 ht) with h1 | h1
    · obtain ⟨s, w, rfl, h0⟩ := h.leaf t h1
      exact h0
    · obtain ⟨a, ha, b, hb, rfl⟩ := prs_mem _ _ h1
      have := rows_pos h k a ha
      have := rows_pos h k b hb
      simp only [Tr.w]
      omega
theorem rows_ws {S : List Tr} (h : Lv S) : ∀ k, ws (rows S k) ≤ (k + 1 : Nat) * ws S
  | 0 => by show ws S ≤ _; simp
  | k + 1 => by
    have ih := rows_ws h k
    show ws (mg S (prs (rows S k))) ≤ _
    rw [ws_perm (mg_perm _ _), ws_app]
    have := prs_ws (rows S k) fun t ht => Int.le_of_lt (rows_pos h k t ht)
    have e : ((k + 1 + 1 : Nat) : Int) * ws S = ((k + 1 : Nat) : Int) * ws S + ws S := by
      rw [Int.natCast_add (k + 1) 1, Int.add_mul]
      simp
    omega
theorem ws_mem : ∀ {l : List Tr}, (∀ t ∈ l, 0 ≤ t.w) → ∀ t ∈ l, t.w ≤ ws l
  | [], _, t, h => by cases h
  | a :: r, h, t, ht => by
    have h0 : 0 ≤ ws r := by
      clear ht
      have : ∀ r : List Tr, (∀ t ∈ r, 0 ≤ t.w) → 0 ≤ ws r := fun r => by
        induction r with
        | nil => intro _; exact Int.le_refl _
        | cons x r ih =>
          intro h
          have := ih fun t ht => h t (by simp [ht])
          have := h x (by simp)
          simp only [ws]
          omega
      exact this r fun t ht => h t (by simp [ht])
    have ha := h a (by simp)
    simp only [ws]
    rcases List.mem_cons.1 ht with rfl | ht
    · omega
    · have := ws_mem (fun t ht => h t (by simp [ht])) t ht
      omega
def sumR (f : Nat → Nat) : Nat → Nat
  | 0 => 0
  | n + 1 => sumR f n + f n
theorem sumR_base (m : Nat) : ∀ n, m ≤ n → sumR (fun r => 2 ^ (15 - if r < m then 1 else 0)) n + m * 16384 = n * 32768
  | 0, h => by
    have : m = 0 := by omega
    subst this
    rfl
  | n + 1, h => by
    simp only [sumR]
    by_cases hm : m = n + 1
    · have : ∀ k, k ≤ n + 1 → sumR (fun r => 2 ^ (15 - if r < m then 1 else 0)) k = k * 16384 := fun k => by
        induction k with
        | zero => intro _; simp [sumR]
        | succ k ih =>
          intro hk
          simp only [sumR]
          rw [ih (by omega), if_pos (by omega)]
          omega
      rw [this n (by omega), if_pos (by omega)]
      omega
    · have := sumR_base m n (by omega)
      rw [if_neg (by omega)]
      omega
theorem sumR_lin {f g : Nat → Nat} {A : Nat} : ∀ n, A ≤ n → (∀ r, r < n → 2 * f r = g r + if r < A then 0 else 32768) → 2 * sumR f n + A * 32768 = sumR g n + n * 32768
  | 0, h, _ => by
    have : A = 0 := by omega
    subst this
    rfl
  | n + 1, h, hf => by
    have hn := hf n (by omega)
    by_cases hA : A = n + 1
    · have : ∀ k, k ≤ n + 1 → 2 * sumR f k = sumR g k := fun k => by
        induction k with
        | zero => intro _; rfl
        | succ k ih =>
          intro hk
          have h1 := hf k (by omega)
          rw [if_pos (by omega)] at h1
          have := ih (by omega)
          simp only [sumR]
          omega
      have := this (n + 1) (by omega)
      omega
    · have ih := sumR_lin n (by omega) fun r hr => hf r (by omega)
      rw [if_neg (by omega)] at hn
      simp only [sumR]
      omega
theorem sumR_pos {f : Nat → Nat} : ∀ {n r : Nat}, (∀ r, r < n → 1 ≤ f r) → r < n → f r + (n - 1) ≤ sumR f n
  | 0, r, _, h => by omega
  | n + 1, r, hf, h => by
    have h2 : n ≤ sumR f n := by
      clear h
      induction n with
      | zero => exact Nat.zero_le _
      | succ n ih =>
        have := ih fun r hr => hf r (by omega)
        have := hf n (by omega)
        simp only [sumR]
        omega
    simp only [sumR]
    by_cases e : r = n
    · subst e; omega
    · have := sumR_pos (n := n) (r := r) (fun r hr => hf r (by omega)) (by omega)
      have := hf n (by omega)
      omega
/-- The sign at a rank. -/
def sg (S : List Tr) (r : Nat) : Nat := (S.getD r default).sgn
theorem Lv.at {S : List Tr} (h : Lv S) {r : Nat} (hr : r < S.length) : ∃ w, S[r] = .leaf (sg S r) w ∧ 0 < w := by
  obtain ⟨s, w, e, h0⟩ := h.leaf S[r] (List.getElem_mem hr)
  refine ⟨w, ?_, h0⟩
  unfold sg
  rw [List.getD_eq_getElem?_getD, List.getElem?_eq_getElem hr]
  simp only [Option.getD_some]
  rw [e]
  rfl
theorem Lv.inj {S : List Tr} (h : Lv S) {r q : Nat} (hr : r < S.length) (hq : q < S.length) (e : sg S r = sg S q) : r = q := by
  have h1 : (S.map Tr.sgn)[r]'(by simpa using hr) = sg S r := by
    unfold sg
    rw [List.getD_eq_getElem?_getD, List.getElem?_eq_getElem hr]
    simp
  have h2 : (S.map Tr.sgn)[q]'(by simpa using hq) = sg S q := by
    unfold sg
    rw [List.getD_eq_getElem?_getD, List.getElem?_eq_getElem hq]
    simp
  exact (List.getElem_inj h.one).1 (h1.trans (e.trans h2.symm))
theorem Lv.cs_take {S : List Tr} (h : Lv S) (i : Nat) : ∀ A, A ≤ S.length → (∀ r, r < S.length → sg S r = i → cs i (S.take A) = if r < A then 1 else 0) ∧ ((∀ r, r < S.length → sg S r ≠ i) → cs i (S.take A) = 0)
  | 0, _ => ⟨fun r _ _ => by simp [cs], fun _ => by simp [cs]⟩
  | A + 1, hA => by
    obtain ⟨h1, h2⟩ := h.cs_take i A (by omega)
    obtain ⟨w, e, _⟩ := h.at (r := A) (by omega)
    have ht : S.take (A + 1) = S.take A ++ [S[A]] := by rw [List.take_add_one, List.getElem?_eq_getElem (by omega)]; rfl
    have hc : cs i (S.take (A + 1)) = cs i (S.take A) + if sg S A = i then 1 else 0 := by
      rw [ht, cs_app, e]
      simp [cs, Tr.cnt]
    refine ⟨fun r hr hs => ?_, fun hn => ?_⟩
    · rw [hc, h1 r hr hs]
      by_cases e2 : r = A
      · subst e2
        rw [if_pos hs, if_neg (by omega), if_pos (by omega)]
      · rw [if_neg (c := sg S A = i) (fun hh => e2 (h.inj hr (by omega) (hs.trans hh.symm)))]
        split <;> split <;> omega
    · rw [hc, h2 hn, if_neg (hn A (by omega))]
theorem up_cut {l : List Tr} (h : Up l) {m : Nat} {x y : Tr} (hx : x ∈ l.take m) (hy : y ∈ l.drop m) : x.w ≤ y.w := by
  have := h
  rw [← List.take_append_drop m l] at this
  exact (List.pairwise_append.1 this).2.2 x hx y hy
/-- What is first of a row, as lengths. -/
theorem kraft {S : List Tr} (h : Lv S) : ∀ k, k ≤ 14 → ∀ m, m ≤ (rows S k).length → ∃ (A : Nat) (D : Nat → Nat), A ≤ S.length ∧ (m = 0 → A = 0) ∧ (∀ r, r < S.length → D r ≤ k + 1 ∧ (0 < D r ↔ r < A)) ∧
    (∀ t ∈ S.take A, t ∈ (rows S k).take m) ∧ (∀ r, r < S.length → cs (sg S r) ((rows S k).take m) = D r) ∧ (∀ i, (∀ r, r < S.length → sg S r ≠ i) → cs i ((rows S k).take m) = 0) ∧
    sumR (fun r => 2 ^ (15 - D r)) S.length + m * 16384 = S.length * 32768
  | 0, _, m, hm => by
    have hm : m ≤ S.length := hm
    refine ⟨m, fun r => if r < m then 1 else 0, hm, fun h => h, fun r _ => ?_, fun t h => h, fun r hr => (h.cs_take _ m hm).1 r hr rfl, fun i hi => (h.cs_take i m hm).2 hi, sumR_base m _ hm⟩
    dsimp only
    split <;> omega
  | k + 1, hk, m, hm => by
    have hup := rows_up h.up k
    have hlen : (prs (rows S k)).length = (rows S k).length / 2 := prs_len _
    obtain ⟨A, K, hAK, hA, hK, ht, hd⟩ := mg_cut m S (prs (rows S k)) (by rw [← mg_len]; exact hm)
    obtain ⟨A', D', b1, b2, b3, b4, b5, b6, b7⟩ := kraft h k (by omega) (2 * K) (by omega)
    have hle : A' ≤ A := by
      rcases Nat.lt_or_ge A A' with hlt | hge
      · exfalso
        have hK0 : K ≠ 0 := fun e => by have := b2 (by omega); omega
        obtain ⟨p, hp⟩ : ∃ p, (prs (rows S k))[K - 1]? = some p := ⟨_, List.getElem?_eq_getElem (by omega)⟩
        obtain ⟨x, y, hx, hy, rfl⟩ := prs_get _ _ _ hp
        have hAS : A < S.length := by omega
        have m1 : S[A] ∈ (rows S k).take (2 * K) := b4 _ (by
          rw [List.mem_take_iff_getElem]
          exact ⟨A, by omega, rfl⟩)
        have l1 : (S[A]).w ≤ y.w := by
          obtain ⟨i, hi⟩ := List.mem_iff_getElem?.1 m1
          rw [List.getElem?_take] at hi
          split at hi
          · rename_i hi2
            by_cases e : i = 2 * (K - 1) + 1
            · subst e
              rw [hy] at hi
              cases hi
              exact Int.le_refl _
            · obtain ⟨li, e1⟩ := List.getElem?_eq_some_iff.1 hi
              obtain ⟨ly, e2⟩ := List.getElem?_eq_some_iff.1 hy
              have := List.pairwise_iff_getElem.1 hup i (2 * (K - 1) + 1) li ly (by omega)
              rw [e1, e2] at this
              exact this
          · cases hi
        have l2 : (Tr.node x y).w ≤ (S[A]).w := by
          refine up_cut (mg_up h.up (prs_up _ hup)) (m := m) (ht.mem_iff.2 (List.mem_append_right _ ?_)) (hd.mem_iff.2 (List.mem_append_left _ ?_))
          · obtain ⟨lp, ep⟩ := List.getElem?_eq_some_iff.1 hp
            rw [List.mem_take_iff_getElem]
            exact ⟨K - 1, by omega, ep⟩
          · rw [List.mem_drop_iff_getElem]
            exact ⟨0, by omega, by simp⟩
        have l3 := rows_pos h k x (List.mem_of_getElem? hx)
        simp only [Tr.w] at l2
        omega
      · exact hge
    have hcs : ∀ i, cs i ((rows S (k + 1)).take m) = cs i (S.take A) + cs i ((rows S k).take (2 * K)) := fun i => by
      show cs i ((mg S (prs (rows S k))).take m) = _
      rw [cs_perm ht, cs_app, ← prs_take, prs_cs i _ (by rw [List.length_take]; omega)]
    refine ⟨A, fun r => (if r < A then 1 else 0) + D' r, hA, fun e => by omega, fun r hr => ?_, fun t htt => ht.mem_iff.2 (List.mem_append_left _ htt), fun r hr => ?_, fun i hi => ?_, ?_⟩
    · obtain ⟨c1, c2⟩ := b3 r hr
      dsimp only
      split <;> omega
    · rw [hcs, (h.cs_take _ A hA).1 r hr rfl, b5 r hr]
    · rw [hcs, (h.cs_take i A hA).2 hi, b6 i hi]
    · have := sumR_lin (f := fun r => 2 ^ (15 - ((if r < A then 1 else 0) + D' r))) (g := fun r => 2 ^ (15 - D' r)) (A := A) S.length hA fun r hr => by
        obtain ⟨c1, c2⟩ := b3 r hr
        split
        · rw [show 15 - D' r = (15 - (1 + D' r)) + 1 by omega, Nat.pow_succ]
          omega
        · have : D' r = 0 := by omega
          rw [this]
      show sumR (fun r => 2 ^ (15 - ((if r < A then 1 else 0) + D' r))) S.length + m * 16384 = _
      omega
/-- The lengths of a whole code. -/
theorem lengths {S : List Tr} (h : Lv S) {k : Nat} (hk : k ≤ 14) (h2 : 2 ≤ S.length) (hm : 2 * S.length - 2 ≤ (rows S k).length) : ∃ D : Nat → Nat, (∀ r, r < S.length → 1 ≤ D r ∧ D r ≤ k + 1) ∧ (∀ r, r < S.length → cs (sg S r) ((rows S k).take (2 * S.length - 2)) = D r) ∧
    (∀ i, (∀ r, r < S.length → sg S r ≠ i) → cs i ((rows S k).take (2 * S.length - 2)) = 0) ∧ sumR (fun r => 2 ^ (15 - D r)) S.length = 32768 := by
  obtain ⟨A, D, b1, b2, b3, b4, b5, b6, b7⟩ := kraft h k hk _ hm
  have e : sumR (fun r => 2 ^ (15 - D r)) S.length = 32768 := by omega
  refine ⟨D, fun r hr => ⟨?_, (b3 r hr).1⟩, b5, b6, e⟩
  rcases Nat.eq_zero_or_pos (D r) with h0 | h0
  · exfalso
    have := sumR_pos (f := fun r => 2 ^ (15 - D r)) (n := S.length) (r := r) (fun r _ => Nat.pow_pos (by decide)) hr
    rw [h0] at this
    omega
  · exact h0
end Pm
end Go.Proofs.Ytapgacggllbhiaa
