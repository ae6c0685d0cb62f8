/- Reading order: moved signs, the order of the list. Plain; no condition. -/
import Derived.Test.YtodhdkbhmkinjaaDoorOrB
namespace Go.Proofs.YtodhdkbhmkinjaaDoor
namespace Rdg
set_option linter.unusedVariables false
set_option linter.unusedSimpArgs false
/-! ### Moved -/
def Sg.mv (dx dy : Int) (x : Sg) : Sg := { x with fx := x.fx + dx, fy := x.fy + dy, tx := x.tx + dx, ty := x.ty + dy }
def mvR (dx dy : Int) (b : R4) : R4 := (b.1 + dx, b.2.1 + dy, b.2.2.1 + dx, b.2.2.2 + dy)
def Wd.mv (dx dy : Int) (w : Wd) : Wd := ⟨w.s, mvR dx dy w.box⟩
section
variable (dx dy : Int)
theorem mv_box (x : Sg) : (x.mv dx dy).box = mvR dx dy x.box := by
  unfold Sg.box Sg.mv mvR
  simp only [Prod.mk.injEq]
  omega
theorem mv_both (a b : R4) : both (mvR dx dy a) (mvR dx dy b) = mvR dx dy (both a b) := by
  unfold both mvR
  simp only [Prod.mk.injEq]
  omega
theorem mv_blank (x : Sg) : (x.mv dx dy).blank = x.blank := rfl
theorem mv_goesOn (a b : Sg) : goesOn (a.mv dx dy) (b.mv dx dy) = goesOn a b := by
  unfold goesOn
  rw [mv_blank]
  have : (b.mv dx dy).fx - (a.mv dx dy).tx = b.fx - a.tx := by unfold Sg.mv; dsimp only; omega
  rw [this]
  rfl
theorem mv_near (a b : Sg) : near (a.mv dx dy) (b.mv dx dy) = near a b := by
  unfold near
  have : (a.mv dx dy).fy - (b.mv dx dy).fy = a.fy - b.fy := by unfold Sg.mv; dsimp only; omega
  rw [this]
  rfl
theorem mv_step (p : Option Sg) (ws : List Wd) (x : Sg) : stepW (p.map (Sg.mv dx dy)) (ws.map (Wd.mv dx dy)) (x.mv dx dy) = (stepW p ws x).map (Wd.mv dx dy) := by
  unfold stepW
  rw [mv_blank]
  have new : ∀ ws : List Wd, (⟨(x.mv dx dy).s, (x.mv dx dy).box⟩ : Wd) :: ws.map (Wd.mv dx dy) = ((⟨x.s, x.box⟩ : Wd) :: ws).map (Wd.mv dx dy) := fun ws => by
    rw [mv_box]
    rfl
  split
  · rfl
  · cases p with
    | none => exact new ws
    | some a => cases ws with
      | nil => exact new []
      | cons w r =>
        simp only [Option.map_some, List.map_cons, mv_goesOn]
        split
        · rw [List.map_cons]
          congr 1
          unfold joinW Wd.mv
          dsimp only
          rw [mv_box, mv_both]
          rfl
        · exact new (w :: r)
theorem mv_wordsR : ∀ (l : List Sg) (p : Option Sg) (ws : List Wd), wordsR (p.map (Sg.mv dx dy)) (ws.map (Wd.mv dx dy)) (l.map (Sg.mv dx dy)) = (wordsR p ws l).map (Wd.mv dx dy)
  | [], p, ws => rfl
  | x :: l, p, ws => by
    rw [List.map_cons]
    unfold wordsR
    rw [mv_step]
    exact mv_wordsR l (some x) _
theorem mv_words (l : List Sg) : wordsF (l.map (Sg.mv dx dy)) = (wordsF l).map (Wd.mv dx dy) := by
  unfold wordsF
  have := mv_wordsR dx dy l none []
  rw [List.map_reverse]
  exact congrArg List.reverse this
theorem mv_split : ∀ (n : Nat) (l : List Sg), splitF n (l.map (Sg.mv dx dy)) = (splitF n l).map (List.map (Sg.mv dx dy))
  | 0, l => rfl
  | n + 1, [] => rfl
  | n + 1, x :: l => by
    have e : near (x.mv dx dy) ∘ Sg.mv dx dy = near x := funext fun y => mv_near dx dy x y
    rw [List.map_cons]
    unfold splitF
    rw [List.takeWhile_map, List.dropWhile_map, e, mv_split n, List.map_cons, List.map_cons]
theorem mv_rows (l : List Sg) : rowsF (l.map (Sg.mv dx dy)) = (rowsF l).map (List.map (Sg.mv dx dy)) := by
  unfold rowsF
  have h1 := sortI_map ltY (Sg.mv dx dy) ltY (fun a b => by unfold ltY Sg.mv; dsimp only; simp only [decide_eq_decide]; omega) l
  rw [h1, List.length_map, mv_split, List.map_map, List.map_map]
  refine List.map_congr_left fun r _ => ?_
  exact sortI_map ltX (Sg.mv dx dy) ltX (fun a b => by unfold ltX Sg.mv; dsimp only; simp only [decide_eq_decide]; omega) r
def allW (l : List Sg) : List Wd := (linesF l).flatMap (·.words)
theorem allW_eq (l : List Sg) : allW l = (rowsF l).flatMap wordsF := by
  unfold allW linesF
  generalize rowsF l = R
  induction R with
  | nil => rfl
  | cons r R ih =>
    rw [List.map_cons, List.filter_cons, List.flatMap_cons]
    split
    · rw [List.flatMap_cons, ih]
      rfl
    · rename_i hx
      have : wordsF r = [] := by
        have h : (lineF r).words = [] := by simpa using hx
        exact h
      rw [this, ih]
      rfl
theorem mv_allW (l : List Sg) : allW (l.map (Sg.mv dx dy)) = (allW l).map (Wd.mv dx dy) := by
  rw [allW_eq, allW_eq, mv_rows, List.flatMap_map, List.map_flatMap]
  congr 1
  funext r
  exact mv_words dx dy r
end
/-! ### The order of the list -/
def K (x : Sg) : Sg := { x with at' := 0 }
theorem K_near (a b : Sg) : near (K a) (K b) = near a b := rfl
theorem K_goesOn (a b : Sg) : goesOn (K a) (K b) = goesOn a b := rfl
theorem K_step (p : Option Sg) (ws : List Wd) (x : Sg) : stepW (p.map K) ws (K x) = stepW p ws x := by
  cases p with
  | none => rfl
  | some a => cases ws with
    | nil => rfl
    | cons w r => rfl
theorem K_wordsR : ∀ (l : List Sg) (p : Option Sg) (ws : List Wd), wordsR (p.map K) ws (l.map K) = wordsR p ws l
  | [], p, ws => rfl
  | x :: l, p, ws => by
    rw [List.map_cons]
    unfold wordsR
    rw [K_step]
    exact K_wordsR l (some x) _
theorem K_words (l : List Sg) : wordsF (l.map K) = wordsF l := by
  unfold wordsF
  exact congrArg List.reverse (K_wordsR l none [])
/-- Row for row the same signs. -/
def RP : List (List Sg) → List (List Sg) → Prop
  | [], [] => True
  | r :: R, q :: Q => (r.map K).Perm (q.map K) ∧ RP R Q
  | _, _ => False
abbrev Down (l : List Sg) : Prop := l.Pairwise fun a b => b.fy ≤ a.fy
theorem near_mono {x a b : Sg} (h : b.fy ≤ a.fy) (hb : near x b = true) : near x a = true := by
  unfold near at *
  simp only [decide_eq_true_eq] at *
  omega
theorem takeWhile_filter (x : Sg) : ∀ l : List Sg, Down l → l.takeWhile (near x) = l.filter (near x) ∧ l.dropWhile (near x) = l.filter fun y => !near x y
  | [], _ => ⟨rfl, rfl⟩
  | y :: l, h => by
    obtain ⟨h1, h2⟩ := List.pairwise_cons.1 h
    obtain ⟨i1, i2⟩ := takeWhile_filter x l h2
    by_cases hy : near x y = true
    · rw [List.takeWhile_cons_of_pos hy, List.dropWhile_cons_of_pos hy, List.filter_cons_of_pos hy, i1, i2, List.filter_cons_of_neg (by simp [hy])]
      exact ⟨rfl, rfl⟩
    · have hn : ∀ z ∈ l, ¬ near x z = true := fun z hz hq => hy (near_mono (h1 z hz) hq)
      rw [List.takeWhile_cons_of_neg hy, List.dropWhile_cons_of_neg hy, List.filter_cons_of_neg hy, List.filter_cons_of_pos (by simp [hy])]
      refine ⟨(List.filter_eq_nil_iff.2 hn).symm, ?_⟩
      rw [List.filter_eq_self.2 fun z hz => by simp [hn z hz]]
theorem filter_K (p : Sg → Bool) (hp : ∀ a, p (K a) = p a) (l : List Sg) : (l.filter p).map K = (l.map K).filter p := by
  rw [List.filter_map]
  have : p ∘ K = p := funext hp
  rw [this]
theorem split_perm : ∀ (n : Nat) (A B : List Sg), A.length ≤ n → (A.map K).Perm (B.map K) → Down A → Down B → (∀ a ∈ A, ∀ b ∈ A, a.fy = b.fy → a.hi = b.hi) → (∀ a ∈ A, 0 ≤ a.hi) → RP (splitF n A) (splitF n B)
  | 0, A, B, h, hp, _, _, _, _ => by unfold splitF; exact True.intro
  | n + 1, [], B, h, hp, _, _, _, _ => by
    have : B = [] := by
      have := hp.length_eq
      rw [List.length_map, List.length_map] at this
      exact List.eq_nil_of_length_eq_zero this.symm
    subst this
    exact True.intro
  | n + 1, x :: A, [], h, hp, _, _, _, _ => by
    have := hp.length_eq
    simp at this
  | n + 1, x :: A, y :: B, h, hp, dA, dB, hH, h0 => by
    rw [List.length_cons] at h
    obtain ⟨a1, a2⟩ := List.pairwise_cons.1 dA
    obtain ⟨b1, b2⟩ := List.pairwise_cons.1 dB
    -- y is, but for its place, among A
    obtain ⟨y', hy', ey⟩ : ∃ y' ∈ x :: A, K y' = K y := by
      have : K y ∈ (x :: A).map K := hp.mem_iff.2 (List.mem_map_of_mem List.mem_cons_self)
      obtain ⟨z, hz, e⟩ := List.mem_map.1 this
      exact ⟨z, hz, e⟩
    obtain ⟨x', hx', ex⟩ : ∃ x' ∈ y :: B, K x' = K x := by
      have : K x ∈ (y :: B).map K := hp.mem_iff.1 (List.mem_map_of_mem List.mem_cons_self)
      obtain ⟨z, hz, e⟩ := List.mem_map.1 this
      exact ⟨z, hz, e⟩
    have fyy : y'.fy = y.fy := by show (K y').fy = (K y).fy; rw [ey]
    have hyy : y'.hi = y.hi := by show (K y').hi = (K y).hi; rw [ey]
    have fxx : x'.fy = x.fy := by show (K x').fy = (K x).fy; rw [ex]
    have l1 : y'.fy ≤ x.fy := by
      rcases List.mem_cons.1 hy' with e | e
      · rw [e]; exact Int.le_refl _
      · exact a1 _ e
    have l2 : x'.fy ≤ y.fy := by
      rcases List.mem_cons.1 hx' with e | e
      · rw [e]; exact Int.le_refl _
      · exact b1 _ e
    have efy : x.fy = y.fy := by omega
    have ehi : x.hi = y.hi := by
      have := hH x List.mem_cons_self y' hy' (by omega)
      omega
    have en : near y = near x := by
      funext z
      unfold near
      rw [efy, ehi]
    have hx0 := h0 x List.mem_cons_self
    have nx : near x x = true := by unfold near; simp only [decide_eq_true_eq]; omega
    have ny : near x y = true := by unfold near; simp only [decide_eq_true_eq]; omega
    obtain ⟨t1, t2⟩ := takeWhile_filter x A a2
    obtain ⟨u1, u2⟩ := takeWhile_filter x B b2
    unfold splitF
    rw [en, t1, t2, u1, u2]
    have fA : (x :: A).filter (near x) = x :: A.filter (near x) := List.filter_cons_of_pos nx
    have fB : (y :: B).filter (near x) = y :: B.filter (near x) := List.filter_cons_of_pos ny
    have gA : (x :: A).filter (fun z => !near x z) = A.filter fun z => !near x z := List.filter_cons_of_neg (by simp [nx])
    have gB : (y :: B).filter (fun z => !near x z) = B.filter fun z => !near x z := List.filter_cons_of_neg (by simp [ny])
    refine ⟨?_, split_perm n _ _ ?_ ?_ (a2.filter _) (b2.filter _) (fun a ha b hb => hH a (List.mem_cons_of_mem _ (List.mem_filter.1 ha).1) b (List.mem_cons_of_mem _ (List.mem_filter.1 hb).1)) fun a ha => h0 a (List.mem_cons_of_mem _ (List.mem_filter.1 ha).1)⟩
    · rw [← fA, ← fB, filter_K _ (fun a => rfl), filter_K _ (fun a => rfl)]
      exact hp.filter _
    · have := List.length_filter_le (fun z => !near x z) A
      omega
    · rw [← gA, ← gB, filter_K _ (fun a => rfl), filter_K _ (fun a => rfl)]
      exact hp.filter _
theorem sortY_down {l : List Sg} (h : Apart l) : Down (sortI ltY l) := (sortI_sorted ltY ltY_trans h.y).imp fun {a b} hab => by
  unfold ltY at hab
  simp only [decide_eq_true_eq] at hab
  omega
theorem RP.sorted : ∀ {R Q : List (List Sg)}, RP R Q → RP (R.map (sortI ltX)) (Q.map (sortI ltX))
  | [], [], _ => True.intro
  | [], q :: Q, h => h.elim
  | r :: R, [], h => h.elim
  | r :: R, q :: Q, h => ⟨((sortI_perm ltX r).map K).trans (h.1.trans ((sortI_perm ltX q).map K).symm), RP.sorted h.2⟩
theorem rows_perm {L L' : List Sg} (hA : Apart L) (hA' : Apart L') (hP : (L.map K).Perm (L'.map K)) (hH : ∀ a ∈ L, ∀ b ∈ L, a.fy = b.fy → a.hi = b.hi) (h0 : ∀ a ∈ L, 0 ≤ a.hi) : RP (rowsF L) (rowsF L') := by
  unfold rowsF
  refine RP.sorted ?_
  have p1 := sortI_perm ltY L
  have p2 := sortI_perm ltY L'
  have hl : (sortI ltY L').length = (sortI ltY L).length := by
    have := hP.length_eq
    rw [List.length_map, List.length_map] at this
    rw [p1.length_eq, p2.length_eq, this]
  rw [hl]
  exact split_perm _ _ _ (Nat.le_refl _) ((p1.map K).trans (hP.trans (p2.map K).symm)) (sortY_down hA) (sortY_down hA') (fun a ha b hb => hH a (p1.mem_iff.1 ha) b (p1.mem_iff.1 hb)) fun a ha => h0 a (p1.mem_iff.1 ha)
/-! ### Boxes by what they bound -/
theorem InB.anti {a b : R4} (h : InB a b) (k : InB b a) : a = b := by
  obtain ⟨a1, a2, a3, a4⟩ := a
  obtain ⟨b1, b2, b3, b4⟩ := b
  unfold InB at *
  dsimp only at *
  simp only [Prod.mk.injEq]
  omega
theorem both_bd (a b c : R4) : InB (both a b) c ↔ InB a c ∧ InB b c := by
  unfold InB both
  dsimp only
  omega
theorem InB.rfl' (a : R4) : InB a a := ⟨Int.le_refl _, Int.le_refl _, Int.le_refl _, Int.le_refl _⟩
theorem foldb_bd : ∀ (r : List Wd) (b c : R4), InB (r.foldl (fun b v => both b v.box) b) c ↔ InB b c ∧ ∀ w ∈ r, InB w.box c
  | [], b, c => by simp
  | v :: r, b, c => by
    rw [List.foldl_cons, foldb_bd r, both_bd]
    simp only [List.mem_cons, forall_eq_or_imp]
    exact and_assoc
theorem boxW_bd {ws : List Wd} (h : ws ≠ []) (c : R4) : InB (boxW ws) c ↔ ∀ w ∈ ws, InB w.box c := by
  cases ws with
  | nil => exact absurd rfl h
  | cons v r =>
    unfold boxW
    rw [foldb_bd, both_bd]
    simp only [List.mem_cons, forall_eq_or_imp, and_self]
theorem stepW_bd (p : Option Sg) (ws : List Wd) (x : Sg) (c : R4) : (∀ w ∈ stepW p ws x, InB w.box c) ↔ (∀ w ∈ ws, InB w.box c) ∧ (x.blank = false → InB x.box c) := by
  unfold stepW
  by_cases hb : x.blank = true
  · rw [if_pos hb]
    simp [hb]
  · rw [if_neg hb]
    have hb' : x.blank = false := by simpa using hb
    have new : ∀ ws : List Wd, (∀ w ∈ (⟨x.s, x.box⟩ : Wd) :: ws, InB w.box c) ↔ (∀ w ∈ ws, InB w.box c) ∧ (x.blank = false → InB x.box c) := fun ws => by
      simp only [List.mem_cons, forall_eq_or_imp, hb', true_implies]
      exact and_comm
    cases p with
    | none => exact new ws
    | some a => cases ws with
      | nil => exact new []
      | cons w r =>
        dsimp only
        split
        · simp only [List.mem_cons, forall_eq_or_imp, hb', true_implies]
          unfold joinW
          dsimp only
          rw [both_bd]
          constructor
          · rintro ⟨⟨h1, h2⟩, h3⟩; exact ⟨⟨h1, h3⟩, h2⟩
          · rintro ⟨⟨h1, h3⟩, h2⟩; exact ⟨⟨h1, h2⟩, h3⟩
        · exact new _
theorem wordsR_bd (c : R4) : ∀ (l : List Sg) (p : Option Sg) (ws : List Wd), (∀ w ∈ wordsR p ws l, InB w.box c) ↔ (∀ w ∈ ws, InB w.box c) ∧ ∀ x ∈ l, x.blank = false → InB x.box c
  | [], p, ws => by simp [wordsR]
  | x :: l, p, ws => by
    unfold wordsR
    rw [wordsR_bd c l, stepW_bd]
    simp only [List.mem_cons, forall_eq_or_imp]
    exact and_assoc
theorem wordsF_bd (l : List Sg) (c : R4) : (∀ w ∈ wordsF l, InB w.box c) ↔ ∀ x ∈ l, x.blank = false → InB x.box c := by
  unfold wordsF
  have := wordsR_bd c l none []
  simp only [List.mem_reverse]
  rw [this]
  simp
theorem bytes_nil {l : List Sg} : bytesS l = [] ↔ ∀ x ∈ l, x.blank = true := by
  unfold bytesS
  rw [List.flatMap_eq_nil_iff]
  constructor
  · intro h x hx
    cases hb : x.blank with
    | true => rfl
    | false =>
      have := h x (List.mem_filter.2 ⟨hx, by simp [hb]⟩)
      unfold Sg.blank at hb
      rw [this] at hb
      cases hb
  · intro h x hx
    obtain ⟨h1, h2⟩ := List.mem_filter.1 hx
    rw [h x h1] at h2
    cases h2
theorem wordsR_nil : ∀ (l : List Sg) (p : Option Sg), (∀ x ∈ l, x.blank = true) → wordsR p [] l = []
  | [], _, _ => rfl
  | x :: l, p, h => by
    unfold wordsR stepW
    rw [if_pos (h x List.mem_cons_self)]
    exact wordsR_nil l _ fun y hy => h y (List.mem_cons_of_mem _ hy)
theorem wordsF_nil (l : List Sg) : wordsF l = [] ↔ ∀ x ∈ l, x.blank = true := by
  constructor
  · intro h
    refine bytes_nil.1 ?_
    rw [← wordsF_bytes, h]
    rfl
  · intro h
    unfold wordsF
    rw [wordsR_nil l none h]
    rfl
theorem row_line {r q : List Sg} (h : (r.map K).Perm (q.map K)) : (lineF r).words.isEmpty = (lineF q).words.isEmpty ∧ (lineF r).box = (lineF q).box := by
  have hb : ∀ {r q : List Sg}, (r.map K).Perm (q.map K) → (∀ c, (∀ x ∈ q, x.blank = false → InB x.box c) → ∀ x ∈ r, x.blank = false → InB x.box c) ∧ ((∀ x ∈ q, x.blank = true) → ∀ x ∈ r, x.blank = true) := by
    intro r q h
    have key : ∀ x ∈ r, ∃ y ∈ q, x.blank = y.blank ∧ x.box = y.box := fun x hx => by
      have : K x ∈ q.map K := h.mem_iff.1 (List.mem_map_of_mem hx)
      obtain ⟨y, hy, e⟩ := List.mem_map.1 this
      exact ⟨y, hy, (congrArg Sg.blank e).symm, (congrArg Sg.box e).symm⟩
    refine ⟨fun c hc x hx hbl => ?_, fun hc x hx => ?_⟩
    · obtain ⟨y, hy, e1, e2⟩ := key x hx
      rw [e2]
      exact hc y hy (by rw [← e1]; exact hbl)
    · obtain ⟨y, hy, e1, _⟩ := key x hx
      rw [e1]
      exact hc y hy
  have h1 := hb h
  have h2 := hb h.symm
  have hn : wordsF r = [] ↔ wordsF q = [] := by
    rw [wordsF_nil, wordsF_nil]
    exact ⟨h2.2, h1.2⟩
  unfold lineF
  dsimp only
  by_cases hr : wordsF r = []
  · have hq := hn.1 hr
    rw [hr, hq]
    exact ⟨rfl, rfl⟩
  · have hq : wordsF q ≠ [] := fun e => hr (hn.2 e)
    refine ⟨?_, ?_⟩
    · rw [Bool.eq_iff_iff, List.isEmpty_iff, List.isEmpty_iff]
      exact hn
    · have eq : ∀ c, InB (boxW (wordsF r)) c ↔ InB (boxW (wordsF q)) c := fun c => by
        rw [boxW_bd hr, boxW_bd hq, wordsF_bd, wordsF_bd]
        exact ⟨h2.1 c, h1.1 c⟩
      exact InB.anti ((eq _).2 (InB.rfl' _)) ((eq _).1 (InB.rfl' _))
theorem RP.lines : ∀ {R Q : List (List Sg)}, RP R Q → ((R.map lineF).filter fun x => !x.words.isEmpty).map Ln.box = ((Q.map lineF).filter fun x => !x.words.isEmpty).map Ln.box
  | [], [], _ => rfl
  | [], q :: Q, h => h.elim
  | r :: R, [], h => h.elim
  | r :: R, q :: Q, h => by
    obtain ⟨e1, e2⟩ := row_line h.1
    rw [List.map_cons, List.map_cons, List.filter_cons, List.filter_cons, e1]
    split
    · rw [List.map_cons, List.map_cons, RP.lines h.2, e2]
    · exact RP.lines h.2
/-- The boxes of the lines. -/
theorem list_boxes {L L' : List Sg} (hA : Apart L) (hA' : Apart L') (hP : (L.map K).Perm (L'.map K)) (hH : ∀ a ∈ L, ∀ b ∈ L, a.fy = b.fy → a.hi = b.hi) (h0 : ∀ a ∈ L, 0 ≤ a.hi) : (linesF L).map Ln.box = (linesF L').map Ln.box := (rows_perm hA hA' hP hH h0).lines
/-! ### Level -/
theorem K_sorted {r q : List Sg} (h : (r.map K).Perm (q.map K)) (hr : r.Pairwise fun a b => a.fx < b.fx) (hq : q.Pairwise fun a b => a.fx < b.fx) : r.map K = q.map K := by
  refine h.eq_of_pairwise (le := fun a b => a.fx < b.fx) (fun a b _ _ h k => by omega) ?_ ?_
  · exact List.pairwise_map.2 hr
  · exact List.pairwise_map.2 hq
theorem sortX_strict {r : List Sg} (hA : Apart r) (hx : r.Pairwise fun a b => a.fx ≠ b.fx) : (sortI ltX r).Pairwise fun a b => a.fx < b.fx := by
  have h1 := sortI_sorted ltX ltX_trans hA.x
  have h2 : (sortI ltX r).Pairwise fun a b => a.fx ≠ b.fx := List.Pairwise.perm hx (sortI_perm ltX r).symm fun h => h.symm
  refine (h1.and h2).imp fun {a b} ⟨h, k⟩ => ?_
  unfold ltX at h
  simp only [decide_eq_true_eq] at h
  omega
theorem RP.level : ∀ {R Q : List (List Sg)}, RP R Q → (∀ r ∈ R, r.Pairwise fun a b => a.fx < b.fx) → (∀ r ∈ Q, r.Pairwise fun a b => a.fx < b.fx) → R.map lineF = Q.map lineF
  | [], [], _, _, _ => rfl
  | [], q :: Q, h, _, _ => h.elim
  | r :: R, [], h, _, _ => h.elim
  | r :: R, q :: Q, h, h1, h2 => by
    have e := K_sorted h.1 (h1 r List.mem_cons_self) (h2 q List.mem_cons_self)
    have : lineF r = lineF q := by
      unfold lineF
      rw [← K_words r, ← K_words q, e]
    rw [List.map_cons, List.map_cons, this, RP.level h.2 (fun r hr => h1 r (List.mem_cons_of_mem _ hr)) fun r hr => h2 r (List.mem_cons_of_mem _ hr)]
theorem rows_strict {L : List Sg} (hA : Apart L) (hx : L.Pairwise fun a b => a.fx ≠ b.fx) : ∀ r ∈ rowsF L, r.Pairwise fun a b => a.fx < b.fx := by
  intro r hr
  unfold rowsF at hr
  obtain ⟨q, hq, rfl⟩ := List.mem_map.1 hr
  have hsub : q.Sublist (sortI ltY L) := by
    have := List.sublist_flatten_of_mem hq
    rwa [splitF_flat _ _ (Nat.le_refl _)] at this
  have a1 : Apart (sortI ltY L) := hA.perm (sortI_perm ltY L).symm
  have a2 : (sortI ltY L).Pairwise fun a b => a.fx ≠ b.fx := List.Pairwise.perm hx (sortI_perm ltY L).symm fun h => h.symm
  exact sortX_strict (a1.sublist hsub) (a2.sublist hsub)
theorem list_level {L L' : List Sg} (hA : Apart L) (hA' : Apart L') (hP : (L.map K).Perm (L'.map K)) (hH : ∀ a ∈ L, ∀ b ∈ L, a.fy = b.fy → a.hi = b.hi) (h0 : ∀ a ∈ L, 0 ≤ a.hi) (hx : L.Pairwise fun a b => a.fx ≠ b.fx) : linesF L = linesF L' := by
  have hx' : L'.Pairwise fun a b => a.fx ≠ b.fx := by
    have h1 : (L.map K).Pairwise fun a b => a.fx ≠ b.fx := List.pairwise_map.2 hx
    have h2 := List.Pairwise.perm h1 hP fun h => h.symm
    exact (List.pairwise_map (f := K) (R := fun a b => a.fx ≠ b.fx)).1 h2
  unfold linesF
  rw [(rows_perm hA hA' hP hH h0).level (rows_strict hA hx) (rows_strict hA' hx')]
end Rdg
end Go.Proofs.YtodhdkbhmkinjaaDoor
