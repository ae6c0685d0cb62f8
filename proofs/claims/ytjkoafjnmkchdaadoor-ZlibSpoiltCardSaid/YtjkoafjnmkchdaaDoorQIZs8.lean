/- A stable sort of coins: the row, the comparison, the insertion sort. Conditions: sizes. -/
import Derived.Test.YtjkoafjnmkchdaaDoorQIZs7
import Derived.Test.YtjkoafjnmkchdaaDoorQIZs6
import Derived.Test.YtjkoafjnmkchdaaDoorQIZs2
import Derived.Test.YtjkoafjnmkchdaaDoorQIZs3
import Derived.Shelf.Pu.Clone
namespace Go.Proofs.YtjkoafjnmkchdaaDoor
namespace Srt
open Sh
set_option linter.unusedVariables false
set_option linter.unusedSimpArgs false
set_option maxRecDepth 4000
set_option maxHeartbeats 2000000
theorem Br.t {b : Bool} {A B : Prop} (h : b = true) (h1 : A) : Br b A B := by rw [h]; exact h1
theorem Br.f {b : Bool} {A B : Prop} (h : b = false) (h1 : B) : Br b A B := by rw [h]; exact h1
theorem ldS_mk {α : Type} {S : World → Prop} {V : α → Value} {K : α → Prop} {x : α} {a : Addr} (h : ∀ w, S w → w.cell? a = some (V x)) (k : K x) : LdS S a V K := ⟨x, h, k⟩
def ptr (b : Nat) : Value := .pointer (some ⟨b, 0, none⟩)
def ptrs (l : List E) : List Value := l.map fun e => ptr e.1
theorem ptrs_len (l : List E) : (ptrs l).length = l.length := by unfold ptrs; simp
/-- A row of pointers to coins. -/
def PR (w : World) (s : Slc) (T : List E) : Prop := Row w s 112 1 (ptrs T)
section
variable {w w1 : World} {s : Slc} {T : List E} {W : Nat → Int} {c : Addr}
theorem PR.len (h : PR w s T) : s.len = T.length := by
  have := h.1
  rw [ptrs_len] at this
  omega
theorem PR.get (h : PR w s T) {i : Nat} {e : E} (hi : T[i]? = some e) : ∃ g, s.p = some ⟨g, 0, none⟩ ∧ w.cell? ⟨g, i, none⟩ = some (ptr e.1) :=
  Row.cell h (by unfold ptrs; rw [List.getElem?_map, hi]; rfl)
theorem PR.set (h : PR w s T) {i : Nat} (hi : i < T.length) (e : E) : ∃ g, s.p = some ⟨g, 0, none⟩ ∧ CanSt w ⟨g, i, none⟩ ∧ PR (w.setCell ⟨g, i, none⟩ (ptr e.1)) s (T.set i e) ∧ Ext s.own w (w.setCell ⟨g, i, none⟩ (ptr e.1)) := by
  have hlen := h.len
  rcases h.2 with rfl | ⟨g, cur, hp, hg, hle, hsz, htk⟩
  · simp only at hlen
    omega
  · have hlt : i < cur.size := by omega
    refine ⟨g, hp, hg.can hlt, ⟨by rw [ptrs_len, List.length_set, hlen, Nat.mul_one], .inr ⟨g, _, hp, hg.set i _, hle, by simpa using hsz, ?_⟩⟩, (Ext.refl _ w).set (.inl ⟨_, hp, rfl⟩) _⟩
    rw [Array.toList_setIfInBounds, List.take_set, htk]
    unfold ptrs
    rw [List.map_set]
/-- What the sort carries: the row, the closure's variable, the weights. -/
structure SS (w : World) (s : Slc) (T : List E) (c : Addr) (W : Nat → Int) : Prop where
  row : PR w s T
  clo : w.cell? c = some wfn
  wt : ∀ e ∈ T, w.cell? ⟨e.1, 0, none⟩ = some (.int .i64 (W e.1))
  ne : ∀ e ∈ T, ¬ s.own e.1
  nc : ¬ s.own c.block
  big : T.length ≤ 1000000
theorem SS.step {T' : List E} (h : SS w s T c W) (he : Ext s.own w w1) (hr : PR w1 s T') (hm : ∀ e ∈ T', e ∈ T) : SS w1 s T' c W := by
  have l1 := h.row.len
  have l2 := hr.len
  refine ⟨hr, ?_, fun e hx => ?_, fun e hx => h.ne e (hm e hx), h.nc, by have := h.big; omega⟩
  · rw [he.cell (cell_lt' h.clo) h.nc]; exact h.clo
  · have := h.wt e (hm e hx)
    rw [he.cell (cell_lt' this) (h.ne e (hm e hx))]
    exact this
theorem SS.still (h : SS w s T c W) (he : Ext (fun _ => False) w w1) : SS w1 s T c W :=
  h.step (he.mono fun _ _ e => e.elim) (h.row.keep he fun _ _ e => e) fun _ h => h
theorem SS.perm {T' : List E} (h : SS w s T c W) (he : Ext s.own w w1) (hr : PR w1 s T') (hm : T'.Perm T) : SS w1 s T' c W := h.step he hr fun e hx => hm.mem_iff.1 hx
attribute [local irreducible] Ld St Nw Nn Lt LdS
theorem c_compare (x y : Int) (w : World) : C93 x y w fun r w1 => (r < 0 ↔ x < y) ∧ w1 = w := by
  refine T93 _ _ _ _ ?_
  unfold S93
  have n : ∀ (z : Int) (w : World), C102 z w fun r w1 => r = false ∧ w1 = w := fun z w => T102 _ _ _ (by unfold S102; exact ⟨by simp, rfl⟩)
  refine (n x w).mono ?_
  rintro r w ⟨rfl, rfl⟩
  refine (n y w).mono ?_
  rintro r w ⟨rfl, rfl⟩
  refine Srt.Br.f rfl (Srt.Br.f rfl (Br.dec (fun q => ⟨by omega, rfl⟩) fun q => Br.dec (fun q2 => ⟨by omega, rfl⟩) fun q2 => ⟨by omega, rfl⟩))
theorem c_weight {b : Nat} {x : Int} (h : w.cell? ⟨b, 0, none⟩ = some (.int .i64 x)) : C83 (some ⟨b, 0, none⟩) w fun r w1 => r = x ∧ w1 = w := by
  refine T83 _ _ _ ?_
  unfold S83
  exact Nn.of (Ld.mk h ⟨rfl, rfl⟩)
theorem c_cmp {x y : E} (h : SS w s T c W) (hx : x ∈ T) (hy : y ∈ T) : C92 (some ⟨x.1, 0, none⟩) (some ⟨y.1, 0, none⟩) c w fun r w1 => (r < 0 ↔ W x.1 < W y.1) ∧ SS w1 s T c W ∧ Ext s.own w w1 := by
  have hd := h.still (Ext.refl _ w).drew
  refine T92 _ _ _ _ _ h.clo ((c_weight (hd.wt x hx)).mono ?_)
  rintro r w1 ⟨rfl, rfl⟩
  refine ⟨hd.clo, (c_weight (hd.wt y hy)).mono ?_⟩
  rintro r w1 ⟨rfl, rfl⟩
  refine ⟨hd.clo, (c_compare _ _ _).mono ?_⟩
  rintro r w1 ⟨hr, rfl⟩
  exact ⟨hr, hd, (Ext.refl _ w).drew⟩
/-- Two places of the row are exchanged: first a is written, then b. -/
theorem SS.swap {i j : Nat} {x y : E} {K : World → Prop} (h : SS w s T c W) (hi : T[i]? = some x) (hj : T[j]? = some y) (hij : i ≠ j)
    (k : ∀ w1, SS w1 s ((T.set i y).set j x) c W → Ext s.own w w1 → K w1) : ∃ g, s.p = some ⟨g, 0, none⟩ ∧ w.cell? ⟨g, i, none⟩ = some (ptr x.1) ∧ w.cell? ⟨g, j, none⟩ = some (ptr y.1) ∧ St w ⟨g, i, none⟩ (ptr y.1) fun w1 => St w1 ⟨g, j, none⟩ (ptr x.1) K := by
  have li := (List.getElem?_eq_some_iff.1 hi).1
  have lj := (List.getElem?_eq_some_iff.1 hj).1
  obtain ⟨g, hg, h1⟩ := h.row.get hi
  obtain ⟨g', hg', h2⟩ := h.row.get hj
  rw [hg] at hg'
  cases hg'
  refine ⟨g, hg, h1, h2, ?_⟩
  obtain ⟨g', hg', c1, p1, e1⟩ := h.row.set li y
  rw [hg] at hg'
  cases hg'
  obtain ⟨g', hg', c2, p2, e2⟩ := p1.set (i := j) (by rw [List.length_set]; exact lj) x
  rw [hg] at hg'
  cases hg'
  have mx : x ∈ T := List.mem_of_getElem? hi
  have my : y ∈ T := List.mem_of_getElem? hj
  have E := e1.tr e2
  unfold St
  refine ⟨c1, c2, k _ (h.step E p2 fun e he => ?_) E⟩
  rcases List.mem_or_eq_of_mem_set he with he | rfl
  · rcases List.mem_or_eq_of_mem_set he with he | rfl
    · exact he
    · exact my
  · exact mx
/-- Neighbours are exchanged. -/
theorem swap_adj {α : Type} {X Z : List α} {a b : α} {i : Nat} (h : X.length = i) : ((X ++ a :: b :: Z).set i b).set (i + 1) a = X ++ b :: a :: Z := by
  rw [set_mid h, show X ++ b :: b :: Z = (X ++ [b]) ++ b :: Z by simp, set_mid (by simp [h])]
  simp
theorem swap_adj' {α : Type} {X Z : List α} {a b : α} {i : Nat} (h : X.length = i) : ((X ++ a :: b :: Z).set (i + 1) a).set i b = X ++ b :: a :: Z := by
  rw [show X ++ a :: b :: Z = (X ++ [a]) ++ b :: Z by simp, set_mid (by simp [h]), show X ++ [a] ++ a :: Z = X ++ a :: a :: Z by simp, set_mid h]
theorem c_ins {P M Q : List E} (h : SS w s (P ++ M ++ Q) c W) (hT : M.Pairwise fun x y => x.2 < y.2) {a b : Nat} (ha : P.length = a) (hb : a + M.length = b) :
    C105 s (a : Int) (b : Int) (.func (.func 92) #[] #[.pointer (some c)]) w fun w1 => Ext s.own w w1 ∧ ∃ M' : List E, M'.Perm M ∧ So W M' ∧ SS w1 s (P ++ M' ++ Q) c W := by
  refine T105_F92 _ _ _ _ _ _ ?_
  unfold S105_F92
  have hbig := h.big
  simp only [List.length_append] at hbig
  rw [i64_id (by omega)]
  refine ⟨fun n st w1 => ∃ (k : Nat) (M1 : List E), st = (a : Int) + (k : Int) ∧ 1 ≤ k ∧ n = M.length + 1 - k ∧ M1.Perm (M.take k) ∧ So W M1 ∧ SS w1 s (P ++ M1 ++ M.drop k ++ Q) c W ∧ Ext s.own w w1, M.length, ⟨1, M.take 1, rfl, Nat.le_refl _, by omega, .refl _, ?_, ?_, Ext.refl _ _⟩, ?_⟩
  · match M with
    | [] => exact List.Pairwise.nil
    | x :: r => exact List.pairwise_singleton _ _
  · rw [List.append_assoc P, List.take_append_drop]
    exact h
  rintro n st w1 ⟨k, M1, rfl, hk, rfl, hp, hs, H1, e1⟩
  unfold S105_F92L2
  refine Br.dec (fun q => ?_) fun q => ?_
  · have hkM : k < M.length := by omega
    have lM1 : M1.length = k := by rw [hp.length_eq, List.length_take]; omega
    have hdrop : M.drop k = M[k] :: M.drop (k + 1) := List.drop_eq_getElem_cons hkM
    rw [hdrop] at H1
    have htag : ∀ y ∈ M1, y.2 < M[k].2 := fun y hy => by
      have hy := hp.mem_iff.1 hy
      have hT2 := hT
      rw [← List.take_append_drop k M] at hT2
      exact (List.pairwise_append.1 hT2).2.2 y hy M[k] (by rw [hdrop]; exact List.mem_cons_self)
    generalize hx : M[k] = x at *
    refine ⟨fun n st w2 => ∃ (A B : List E), M1 = A ++ B ∧ st = (a : Int) + (A.length : Int) ∧ n = A.length ∧ (∀ y ∈ B, lt W x y) ∧ SS w2 s (P ++ A ++ x :: B ++ M.drop (k + 1) ++ Q) c W ∧ Ext s.own w w2, k, ⟨M1, [], by simp, by omega, lM1.symm, fun y hy => (by cases hy), by simpa using H1, e1⟩, ?_⟩
    rintro n st w2 ⟨A, B, rfl, rfl, rfl, hB, H2, e2⟩
    unfold S105_F92L1
    have hslen := H2.row.len
    simp only [List.length_append, List.length_cons, List.length_drop] at hslen lM1
    have fin : ∀ w3, SS w3 s (P ++ A ++ x :: B ++ M.drop (k + 1) ++ Q) c W → Ext s.own w w3 → (∀ y ∈ A, lt W y x) → ∃ n', n' < M.length + 1 - k ∧ ∃ (k' : Nat) (M1' : List E), IntKind.i64.wrap ((a : Int) + (k : Int) + 1) = (a : Int) + (k' : Int) ∧ 1 ≤ k' ∧ n' = M.length + 1 - k' ∧ M1'.Perm (M.take k') ∧ So W M1' ∧ SS w3 s (P ++ M1' ++ M.drop k' ++ Q) c W ∧ Ext s.own w w3 := fun w3 H3 e3 hA => by
      refine ⟨M.length + 1 - (k + 1), by omega, k + 1, A ++ x :: B, by rw [i64_id (by omega)]; omega, by omega, rfl, ?_, so_put hs hA hB, by simpa using H3, e3⟩
      have ht : M.take (k + 1) = M.take k ++ [x] := by rw [List.take_add_one, List.getElem?_eq_getElem hkM, hx]; rfl
      rw [ht]
      exact (List.perm_middle.trans (List.Perm.cons x hp)).trans (List.perm_append_singleton x _).symm
    refine Br.dec (fun q2 => ?_) fun q2 => ?_
    · obtain ⟨A', y, rfl⟩ : ∃ A' y, A = A' ++ [y] := by
        refine ⟨A.dropLast, A.getLast (by intro e; rw [e] at q2; simp at q2), (List.dropLast_concat_getLast _).symm⟩
      simp only [List.length_append, List.length_singleton] at hslen lM1 q2 ⊢
      have gx : (P ++ (A' ++ [y]) ++ x :: B ++ M.drop (k + 1) ++ Q)[a + A'.length + 1]? = some x := by
        rw [List.append_assoc, List.append_assoc, List.append_assoc]
        rw [show P ++ ((A' ++ [y]) ++ (x :: B ++ (M.drop (k + 1) ++ Q))) = (P ++ (A' ++ [y])) ++ x :: (B ++ (M.drop (k + 1) ++ Q)) by simp]
        exact get_mid (by simp [ha]; omega)
      have gy : (P ++ (A' ++ [y]) ++ x :: B ++ M.drop (k + 1) ++ Q)[a + A'.length]? = some y := by
        rw [show P ++ (A' ++ [y]) ++ x :: B ++ M.drop (k + 1) ++ Q = (P ++ A') ++ y :: (x :: B ++ M.drop (k + 1) ++ Q) by simp]
        exact get_mid (by simp [ha])
      have H2d := H2.still (Ext.refl _ w2).drew
      obtain ⟨g, hg, cx⟩ := H2d.row.get gx
      obtain ⟨g', hg', cy⟩ := H2d.row.get gy
      rw [hg] at hg'
      cases hg'
      have i1 : (a : Int) + ((A'.length + 1 : Nat) : Int) = ((a + A'.length + 1 : Nat) : Int) := by omega
      have i2 : IntKind.i64.wrap (((a + A'.length + 1 : Nat) : Int) - 1) = ((a + A'.length : Nat) : Int) := by rw [i64_id (by omega)]; omega
      rw [i1, i2, hg]
      refine ⟨by omega, by omega, Nn.of ?_⟩
      simp only [add_lit, Int.toNat_natCast, Nat.mul_one, Nat.zero_add]
      refine Ld.mk cx ⟨by omega, by omega, Nn.of ?_⟩
      simp only [add_lit, Int.toNat_natCast, Nat.mul_one, Nat.zero_add]
      refine Ld.mk cy ?_
      refine (c_cmp H2d (List.mem_of_getElem? gx) (List.mem_of_getElem? gy)).mono ?_
      rintro r w3 ⟨hr, H3, e3⟩
      have E3 := e2.tr ((Ext.refl _ w2).drew.tr e3)
      refine Br.dec (fun q3 => ?_) fun q3 => ?_
      · have hlt := hr.1 q3
        obtain ⟨g', hg', c1, c2, hst⟩ := (H3.still (Ext.refl _ w3).drew).swap gx gy (by omega) (K := fun w1 => ∃ n', n' < A'.length + 1 ∧ ∃ (A B_1 : List E), A' ++ [y] ++ B = A ++ B_1 ∧ ((a + A'.length : Nat) : Int) = (a : Int) + (A.length : Int) ∧ n' = A.length ∧ (∀ y ∈ B_1, lt W x y) ∧ SS w1 s (P ++ A ++ x :: B_1 ++ M.drop (k + 1) ++ Q) c W ∧ Ext s.own w w1) fun w4 H4 e4 => by
          refine ⟨A'.length, by omega, A', y :: B, by simp, by omega, rfl, fun z hz => ?_, ?_, E3.tr ((Ext.refl _ w3).drew.tr e4)⟩
          · rcases List.mem_cons.1 hz with rfl | hz
            · exact .inl hlt
            · exact hB z hz
          · have e : ((P ++ (A' ++ [y]) ++ x :: B ++ M.drop (k + 1) ++ Q).set (a + A'.length + 1) y).set (a + A'.length) x = P ++ A' ++ x :: y :: B ++ M.drop (k + 1) ++ Q := by
              rw [show P ++ (A' ++ [y]) ++ x :: B ++ M.drop (k + 1) ++ Q = (P ++ A') ++ y :: x :: (B ++ M.drop (k + 1) ++ Q) by simp]
              rw [swap_adj' (by simp [ha])]
              simp
            rw [e] at H4
            exact H4
        rw [hg] at hg'
        cases hg'
        refine ⟨fun w' => w' = w3.drew, rfl, by omega, by omega, Nn.of ?_⟩
        simp only [add_lit, Int.toNat_natCast, Nat.mul_one, Nat.zero_add]
        refine ldS_mk (x := some ⟨y.1, 0, none⟩) (fun w' e => e ▸ c2) ⟨by omega, by omega, Nn.of ?_⟩
        simp only [add_lit, Int.toNat_natCast, Nat.mul_one, Nat.zero_add]
        refine ldS_mk (x := some ⟨x.1, 0, none⟩) (fun w' e => e ▸ c1) ⟨by omega, by omega, Nn.of ?_⟩
        simp only [add_lit, Int.toNat_natCast, Nat.mul_one, Nat.zero_add]
        have hst' := hst
        unfold St at hst' ⊢
        exact ⟨hst'.1, by omega, by omega, Nn.of (by simp only [add_lit, Nat.zero_add]; exact hst'.2)⟩
      · refine fin w3 H3 E3 fun z hz => ?_
        have hle : W y.1 ≤ W x.1 := by
          have := fun h => q3 (hr.2 h)
          omega
        have hyx : lt W y x := lt_of hle (htag y (by simp))
        rcases List.mem_append.1 hz with hz | hz
        · have hsA := (so_app.1 (so_app.1 hs).1).2.2
          exact lt_trans (hsA z hz y (by simp)) hyx
        · rw [List.mem_singleton.1 hz]; exact hyx
    · have hA0 : A = [] := List.eq_nil_of_length_eq_zero (by omega)
      exact fin _ (H2.still (Ext.refl _ w2).drew) (e2.tr (Ext.refl _ w2).drew) fun z hz => by rw [hA0] at hz; cases hz
  · have hk2 : M.length ≤ k := by omega
    refine ⟨e1, M1, ?_, hs, ?_⟩
    · rw [List.take_of_length_le hk2] at hp
      exact hp
    · rw [List.drop_of_length_le hk2] at H1
      simpa using H1
end
end Srt
end Go.Proofs.YtjkoafjnmkchdaaDoor

/- A stable sort of coins: exchanges of ranges, rotations. Conditions: sizes. -/
namespace Go.Proofs.YtjkoafjnmkchdaaDoor
namespace Srt
open Sh
set_option linter.unusedVariables false
set_option linter.unusedSimpArgs false
set_option maxRecDepth 4000
set_option maxHeartbeats 2000000
attribute [local irreducible] Ld St Nw Nn Lt LdS
section
variable {w w1 : World} {s : Slc} {T : List E} {W : Nat → Int} {c : Addr}
/-- An exchange, as the program does it. -/
theorem SS.step_swap {i j : Nat} {x y : E} {ii jj : Int} {K : World → Prop} (h : SS w s T c W) (gi : T[i]? = some x) (gj : T[j]? = some y) (hij : i ≠ j) (hi : ii = (i : Int)) (hj : jj = (j : Int))
    (k : ∀ w1, SS w1 s ((T.set i y).set j x) c W → Ext s.own w w1 → K w1) :
    ∃ vS : World → Prop, vS w.drew ∧ 0 ≤ jj ∧ jj < (s.len : Nat) ∧ Nn s.p fun a => LdS vS (a.add (jj.toNat * 1)) Value.pointer fun (x1 : Option Addr) => 0 ≤ ii ∧ ii < (s.len : Nat) ∧ Nn s.p fun a => LdS vS (a.add (ii.toNat * 1)) Value.pointer fun (x2 : Option Addr) =>
      0 ≤ ii ∧ ii < (s.len : Nat) ∧ Nn s.p fun a => St w.drew (a.add (ii.toNat * 1)) (.pointer x1) fun w2 => 0 ≤ jj ∧ jj < (s.len : Nat) ∧ Nn s.p fun a => St w2 (a.add (jj.toNat * 1)) (.pointer x2) K := by
  subst hi hj
  have li := (List.getElem?_eq_some_iff.1 gi).1
  have lj := (List.getElem?_eq_some_iff.1 gj).1
  have hl := h.row.len
  have hd := h.still (Ext.refl _ w).drew
  obtain ⟨g, hg, c1, c2, hst⟩ := hd.swap gi gj hij (K := K) fun w1 H1 e1 => k w1 H1 ((Ext.refl _ w).drew.tr e1)
  rw [hg]
  refine ⟨fun w' => w' = w.drew, rfl, by omega, by omega, Nn.of ?_⟩
  simp only [add_lit, Int.toNat_natCast, Nat.mul_one, Nat.zero_add]
  refine ldS_mk (x := some ⟨y.1, 0, none⟩) (fun w' e => e ▸ c2) ⟨by omega, by omega, Nn.of ?_⟩
  simp only [add_lit, Int.toNat_natCast, Nat.mul_one, Nat.zero_add]
  refine ldS_mk (x := some ⟨x.1, 0, none⟩) (fun w' e => e ▸ c1) ⟨by omega, by omega, Nn.of ?_⟩
  simp only [add_lit, Int.toNat_natCast, Nat.mul_one, Nat.zero_add]
  have hst' := hst
  unfold St at hst' ⊢
  exact ⟨hst'.1, by omega, by omega, Nn.of (by simp only [add_lit, Nat.zero_add]; exact hst'.2)⟩
theorem c_swapR {P X Z Y Q : List E} (h : SS w s (P ++ X ++ Z ++ Y ++ Q) c W) {a b n : Nat} (ha : P.length = a) (hb : a + X.length + Z.length = b) (hX : X.length = n) (hY : Y.length = n) (f : Value) :
    C108 s (a : Int) (b : Int) (n : Int) f w fun w1 => Ext s.own w w1 ∧ SS w1 s (P ++ Y ++ Z ++ X ++ Q) c W := by
  refine T108 _ _ _ _ _ _ _ ?_
  unfold S108
  have hbig := h.big
  simp only [List.length_append] at hbig
  refine ⟨fun m st w1 => ∃ i : Nat, st = (i : Int) ∧ i ≤ n ∧ m = n - i ∧ SS w1 s (P ++ Y.take i ++ X.drop i ++ Z ++ X.take i ++ Y.drop i ++ Q) c W ∧ Ext s.own w w1, n, ⟨0, rfl, by omega, rfl, by simpa using h, Ext.refl _ _⟩, ?_⟩
  rintro m st w1 ⟨i, rfl, hi, rfl, H1, e1⟩
  unfold S108L1
  refine Br.dec (fun q => ?_) fun q => ?_
  · have hin : i < n := by omega
    have dX : X.drop i = X[i] :: X.drop (i + 1) := List.drop_eq_getElem_cons (by omega)
    have dY : Y.drop i = Y[i] :: Y.drop (i + 1) := List.drop_eq_getElem_cons (by omega)
    have tX : X.take (i + 1) = X.take i ++ [X[i]] := by rw [List.take_add_one, List.getElem?_eq_getElem (by omega)]; rfl
    have tY : Y.take (i + 1) = Y.take i ++ [Y[i]] := by rw [List.take_add_one, List.getElem?_eq_getElem (by omega)]; rfl
    have lX : (X.take i).length = i := by rw [List.length_take]; omega
    have lY : (Y.take i).length = i := by rw [List.length_take]; omega
    have lD : (X.drop (i + 1)).length = n - (i + 1) := by rw [List.length_drop]; omega
    generalize X[i] = x at dX tX
    generalize Y[i] = y at dY tY
    rw [dX, dY] at H1
    have f1 : P ++ Y.take i ++ (x :: X.drop (i + 1)) ++ Z ++ X.take i ++ (y :: Y.drop (i + 1)) ++ Q = (P ++ Y.take i) ++ x :: (X.drop (i + 1) ++ Z ++ X.take i ++ (y :: Y.drop (i + 1)) ++ Q) := by simp
    have f2 : P ++ Y.take i ++ (x :: X.drop (i + 1)) ++ Z ++ X.take i ++ (y :: Y.drop (i + 1)) ++ Q = (P ++ Y.take i ++ x :: X.drop (i + 1) ++ Z ++ X.take i) ++ y :: (Y.drop (i + 1) ++ Q) := by simp
    have gi : (P ++ Y.take i ++ (x :: X.drop (i + 1)) ++ Z ++ X.take i ++ (y :: Y.drop (i + 1)) ++ Q)[a + i]? = some x := by
      rw [f1]; exact get_mid (by simp [ha, lY])
    have gj : (P ++ Y.take i ++ (x :: X.drop (i + 1)) ++ Z ++ X.take i ++ (y :: Y.drop (i + 1)) ++ Q)[b + i]? = some y := by
      rw [f2]; exact get_mid (by simp only [List.length_append, List.length_cons, lX, lY, lD, ha]; omega)
    rw [i64_id (n := (b : Int) + (i : Int)) (by omega), i64_id (n := (a : Int) + (i : Int)) (by omega)]
    refine H1.step_swap gi gj (by omega) (by omega) (by omega) fun w2 H2 e2 => ?_
    refine ⟨n - (i + 1), by omega, i + 1, by rw [i64_id (by omega)]; rfl, by omega, rfl, ?_, e1.tr e2⟩
    have e : ((P ++ Y.take i ++ (x :: X.drop (i + 1)) ++ Z ++ X.take i ++ (y :: Y.drop (i + 1)) ++ Q).set (a + i) y).set (b + i) x = P ++ Y.take (i + 1) ++ X.drop (i + 1) ++ Z ++ X.take (i + 1) ++ Y.drop (i + 1) ++ Q := by
      rw [f1, set_mid (by simp [ha, lY])]
      rw [show (P ++ Y.take i) ++ y :: (X.drop (i + 1) ++ Z ++ X.take i ++ (y :: Y.drop (i + 1)) ++ Q) = (P ++ Y.take i ++ y :: X.drop (i + 1) ++ Z ++ X.take i) ++ y :: (Y.drop (i + 1) ++ Q) by simp]
      rw [set_mid (by simp only [List.length_append, List.length_cons, lX, lY, lD, ha]; omega), tX, tY]
      simp
    rw [e] at H2
    exact H2
  · have : i = n := by omega
    subst this
    rw [List.take_of_length_le (by omega), List.take_of_length_le (by omega), List.drop_of_length_le (by omega), List.drop_of_length_le (by omega)] at H1
    exact ⟨e1, by simpa using H1⟩
theorem c_rot {P U V Q : List E} (h : SS w s (P ++ U ++ V ++ Q) c W) {a m b : Nat} (ha : P.length = a) (hm : a + U.length = m) (hb : m + V.length = b) (hU : U ≠ []) (hV : V ≠ []) (f : Value) :
    C107 s (a : Int) (m : Int) (b : Int) f w fun w1 => Ext s.own w w1 ∧ SS w1 s (P ++ V ++ U ++ Q) c W := by
  refine T107 _ _ _ _ _ _ _ ?_
  unfold S107
  have hbig := h.big
  simp only [List.length_append] at hbig
  have lU := List.length_pos_iff.2 hU
  have lV := List.length_pos_iff.2 hV
  rw [i64_id (n := (m : Int) - (a : Int)) (by omega), i64_id (n := (b : Int) - (m : Int)) (by omega)]
  refine ⟨fun n st w1 => ∃ (P' X Y Q' : List E), st = ((X.length : Int), (Y.length : Int)) ∧ n = X.length + Y.length ∧ P'.length + X.length = m ∧ 1 ≤ X.length ∧ 1 ≤ Y.length ∧ P' ++ Y ++ X ++ Q' = P ++ V ++ U ++ Q ∧ SS w1 s (P' ++ X ++ Y ++ Q') c W ∧ Ext s.own w w1, U.length + V.length, ⟨P, U, V, Q, by simp only [Prod.mk.injEq]; omega, rfl, by omega, lU, lV, rfl, h, Ext.refl _ _⟩, ?_⟩
  rintro n st w1 ⟨P', X, Y, Q', rfl, rfl, hPX, lX, lY, hend, H1, e1⟩
  unfold S107L1
  dsimp only
  have hlen := congrArg List.length hend
  simp only [List.length_append] at hlen
  rw [i64_id (n := (m : Int) - (X.length : Int)) (by omega), show (m : Int) - (X.length : Int) = ((P'.length : Nat) : Int) by omega]
  refine Br.ne (fun q => Br.dec (fun q2 => ?_) fun q2 => ?_) fun q => ?_
  · obtain ⟨X1, X2, rfl, l1⟩ := cut_at (l := X) (i := Y.length) (by omega)
    simp only [List.length_append] at *
    refine (c_swapR (P := P') (X := X1) (Z := X2) (Y := Y) (Q := Q') (a := P'.length) (b := m) (n := Y.length) (by simpa using H1) rfl (by omega) l1 rfl f).mono ?_
    rintro w2 ⟨e2, H2⟩
    refine ⟨X2.length + X1.length, by omega, P' ++ Y, X2, X1, Q', ?_, rfl, by simp; omega, by omega, by omega, by rw [← hend]; simp, by simpa using H2, e1.tr e2⟩
    rw [i64_id (by omega)]
    simp only [Prod.mk.injEq]
    omega
  · obtain ⟨Y1, Y2, rfl, l1⟩ := cut_at (l := Y) (i := Y.length - X.length) (by omega)
    simp only [List.length_append] at *
    have e3 : IntKind.i64.wrap (IntKind.i64.wrap ((m : Int) + ((Y1.length + Y2.length : Nat) : Int)) - (X.length : Int)) = ((P'.length + X.length + Y1.length : Nat) : Int) := by
      rw [i64_id (n := (m : Int) + ((Y1.length + Y2.length : Nat) : Int)) (by omega), i64_id (by omega)]
      omega
    rw [e3]
    refine (c_swapR (P := P') (X := X) (Z := Y1) (Y := Y2) (Q := Q') (a := P'.length) (b := P'.length + X.length + Y1.length) (n := X.length) (by simpa using H1) rfl rfl rfl (by omega) f).mono ?_
    rintro w2 ⟨e2, H2⟩
    refine ⟨Y2.length + Y1.length, by omega, P', Y2, Y1, X ++ Q', ?_, rfl, by omega, by omega, by omega, by rw [← hend]; simp, by simpa using H2, e1.tr e2⟩
    rw [i64_id (by omega)]
    simp only [Prod.mk.injEq]
    omega
  · have hXY : X.length = Y.length := by omega
    refine (c_swapR (P := P') (X := X) (Z := []) (Y := Y) (Q := Q') (a := P'.length) (b := m) (n := X.length) (by simpa using H1) rfl (by simpa using hPX) rfl hXY.symm f).mono ?_
    rintro w2 ⟨e2, H2⟩
    refine ⟨e1.tr e2, ?_⟩
    rw [← hend]
    simpa using H2
end
end Srt
end Go.Proofs.YtjkoafjnmkchdaaDoor

/- A stable sort of coins: merging by symmetry. Conditions: sizes. -/
namespace Go.Proofs.YtjkoafjnmkchdaaDoor
namespace Srt
open Sh
set_option linter.unusedVariables false
set_option linter.unusedSimpArgs false
set_option maxRecDepth 4000
set_option maxHeartbeats 4000000
theorem pair_eq {α β : Type} {a c : α} {b d : β} (h : a = c) (k : b = d) : (a, b) = (c, d) := by rw [h, k]
theorem u64_id {n : Int} (h : 0 ≤ n ∧ n ≤ 18446744073709551615) : IntKind.u64.wrap n = n := IntWalk.u64_in n h
theorem half {x y : Nat} (h : x + y ≤ 8000000) : IntKind.i64.wrap (Int.fdiv (IntKind.u64.wrap (IntKind.i64.wrap ((x : Int) + (y : Int)))) (2 ^ 1)) = (((x + y) / 2 : Nat) : Int) := by
  rw [i64_id (n := (x : Int) + (y : Int)) (by omega), u64_id (by omega), Bit.fdiv_pow, show (2 : Int) ^ 1 = 2 by decide, i64_id (by omega)]
  omega
theorem so_get {W : Nat → Int} {l : List E} (h : So W l) {i j : Nat} {x y : E} (hi : l[i]? = some x) (hj : l[j]? = some y) (hij : i ≤ j) : W x.1 ≤ W y.1 := by
  by_cases e : i = j
  · subst e
    rw [hi] at hj
    cases hj
    exact Int.le_refl _
  · obtain ⟨li, rfl⟩ := List.getElem?_eq_some_iff.1 hi
    obtain ⟨lj, rfl⟩ := List.getElem?_eq_some_iff.1 hj
    exact le_of_lt (List.pairwise_iff_getElem.1 h i j li lj (by omega))
attribute [local irreducible] Ld St Nw Nn Lt LdS
section
variable {w w1 : World} {s : Slc} {T : List E} {W : Nat → Int} {c : Addr}
/-- A comparison, as the program does it. -/
theorem SS.step_cmp {i j : Nat} {x y : E} {ii jj : Int} {K : Int → World → Prop} (h : SS w s T c W) (gi : T[i]? = some x) (gj : T[j]? = some y) (hi : ii = (i : Int)) (hj : jj = (j : Int))
    (k : ∀ r w1, (r < 0 ↔ W x.1 < W y.1) → SS w1 s T c W → Ext s.own w w1 → K r w1) :
    0 ≤ ii ∧ ii < (s.len : Nat) ∧ Nn s.p fun a => Ld w.drew (a.add (ii.toNat * 1)) Value.pointer fun (x1 : Option Addr) => 0 ≤ jj ∧ jj < (s.len : Nat) ∧ Nn s.p fun a => Ld w.drew (a.add (jj.toNat * 1)) Value.pointer fun (x2 : Option Addr) =>
      C92 x1 x2 c w.drew fun r w2 => K r w2 := by
  subst hi hj
  have li := (List.getElem?_eq_some_iff.1 gi).1
  have lj := (List.getElem?_eq_some_iff.1 gj).1
  have hl := h.row.len
  have hd := h.still (Ext.refl _ w).drew
  obtain ⟨g, hg, c1⟩ := hd.row.get gi
  obtain ⟨g', hg', c2⟩ := hd.row.get gj
  rw [hg] at hg'
  cases hg'
  rw [hg]
  refine ⟨by omega, by omega, Nn.of ?_⟩
  simp only [add_lit, Int.toNat_natCast, Nat.mul_one, Nat.zero_add]
  refine Ld.mk c1 ⟨by omega, by omega, Nn.of ?_⟩
  simp only [add_lit, Int.toNat_natCast, Nat.mul_one, Nat.zero_add]
  refine Ld.mk c2 ((c_cmp hd (List.mem_of_getElem? gi) (List.mem_of_getElem? gj)).mono ?_)
  rintro r w2 ⟨hr, H2, e2⟩
  exact k r w2 hr H2 ((Ext.refl _ w).drew.tr e2)
abbrev clos (c : Addr) : Value := .func (.func 92) #[] #[.pointer (some c)]
/-- One element ahead of a row. -/
theorem c_sym1 {P V Q : List E} {u : E} (h : SS w s (P ++ [u] ++ V ++ Q) c W) (hV : So W V) (hT : Tg [u] V) {a b : Nat} (ha : P.length = a) (hb : a + 1 + V.length = b) :
    C106 s (a : Int) ((a + 1 : Nat) : Int) (b : Int) (clos c) w fun w1 => Ext s.own w w1 ∧ ∃ M', M'.Perm ([u] ++ V) ∧ So W M' ∧ SS w1 s (P ++ M' ++ Q) c W := by
  refine T106_F92 _ _ _ _ _ _ _ ?_
  unfold S106_F92
  have hbig := h.big
  simp only [List.length_append, List.length_singleton] at hbig
  refine Srt.Br.t (by rw [i64_id (by omega)]; simp; omega) ?_
  have gu : (P ++ [u] ++ V ++ Q)[a]? = some u := by
    rw [show P ++ [u] ++ V ++ Q = P ++ u :: (V ++ Q) by simp]; exact get_mid ha
  have gv : ∀ i v, V[i]? = some v → (P ++ [u] ++ V ++ Q)[a + 1 + i]? = some v := fun i v hi => by
    have li := (List.getElem?_eq_some_iff.1 hi).1
    rw [List.getElem?_append_left (by simp only [List.length_append, List.length_singleton]; omega), List.getElem?_append_right (by simp; omega)]
    rw [show a + 1 + i - (P ++ [u]).length = i by simp; omega]
    exact hi
  refine ⟨fun n st w1 => ∃ p q : Nat, st = (((a + 1 + p : Nat) : Int), ((a + 1 + q : Nat) : Int)) ∧ p ≤ q ∧ q ≤ V.length ∧ n = q - p ∧ (∀ i v, i < p → V[i]? = some v → W v.1 < W u.1) ∧ (∀ i v, q ≤ i → V[i]? = some v → W u.1 ≤ W v.1) ∧ SS w1 s (P ++ [u] ++ V ++ Q) c W ∧ Ext s.own w w1, V.length,
    ⟨0, V.length, pair_eq (by omega) (by omega), by omega, Nat.le_refl _, rfl, fun i v hi => by omega, fun i v hi hv => by have := (List.getElem?_eq_some_iff.1 hv).1; omega, h, Ext.refl _ _⟩, ?_⟩
  rintro n st w1 ⟨p, q, rfl, hpq, hq, rfl, lo, hi, H1, e1⟩
  unfold S106_F92L2
  dsimp only
  refine Br.dec (fun q1 => ?_) fun q1 => ?_
  · rw [half (by omega)]
    obtain ⟨t, ht⟩ : ∃ t, (a + 1 + p + (a + 1 + q)) / 2 = a + 1 + t := ⟨(p + q) / 2, by omega⟩
    have htq : p ≤ t ∧ t < q := by omega
    rw [ht]
    have gt : V[t]? = some V[t] := List.getElem?_eq_getElem (by omega)
    generalize V[t] = v at gt
    refine H1.step_cmp (gv t v gt) gu rfl rfl fun r w2 hr H2 e2 => ?_
    refine Br.dec (fun q2 => Lt.of ?_) fun q2 => ?_
    · have hvu := hr.1 q2
      refine ⟨q - (t + 1), by omega, t + 1, q, ?_, by omega, hq, rfl, fun i x hix hx => ?_, hi, H2, e1.tr e2⟩
      · exact pair_eq (by rw [i64_id (by omega)]; omega) rfl
      · have := so_get hV hx gt (by omega)
        omega
    · have hvu : W u.1 ≤ W v.1 := by
        have := fun h => q2 (hr.2 h)
        omega
      refine ⟨t - p, by omega, p, t, rfl, by omega, by omega, rfl, lo, fun i x hix hx => ?_, H2, e1.tr e2⟩
      have := so_get hV gt hx hix
      omega
  · have hpq2 : p = q := by omega
    subst hpq2
    refine ⟨fun n st w2 => ∃ t : Nat, st = ((a + t : Nat) : Int) ∧ t ≤ p ∧ n = p - t ∧ SS w2 s (P ++ V.take t ++ [u] ++ V.drop t ++ Q) c W ∧ Ext s.own w w2, p, ⟨0, by simp, by omega, rfl, by simpa using H1, e1⟩, ?_⟩
    rintro n st w2 ⟨t, rfl, ht, rfl, H2, e2⟩
    unfold S106_F92L1
    dsimp only
    have lT : (V.take t).length = t := by rw [List.length_take]; omega
    rw [i64_id (n := ((a + 1 + p : Nat) : Int) - 1) (by omega)]
    refine Br.dec (fun q2 => ?_) fun q2 => ?_
    · have htp : t < p := by omega
      have dV : V.drop t = V[t] :: V.drop (t + 1) := List.drop_eq_getElem_cons (by omega)
      have tV : V.take (t + 1) = V.take t ++ [V[t]] := by rw [List.take_add_one, List.getElem?_eq_getElem (by omega)]; rfl
      generalize V[t] = v at dV tV
      rw [dV] at H2
      have f : P ++ V.take t ++ [u] ++ (v :: V.drop (t + 1)) ++ Q = (P ++ V.take t) ++ u :: v :: (V.drop (t + 1) ++ Q) := by simp
      rw [f] at H2
      have lP : (P ++ V.take t).length = a + t := by simp [ha, lT]
      refine H2.step_swap (i := a + t) (j := a + t + 1) (get_mid lP) (by rw [show (P ++ V.take t) ++ u :: v :: (V.drop (t + 1) ++ Q) = (P ++ V.take t ++ [u]) ++ v :: (V.drop (t + 1) ++ Q) by simp]; exact get_mid (by simp [ha, lT]; omega)) (by omega) rfl (by rw [i64_id (by omega)]; omega) fun w3 H3 e3 => ?_
      rw [swap_adj lP] at H3
      refine ⟨p - (t + 1), by omega, t + 1, by rw [i64_id (by omega)]; omega, by omega, rfl, ?_, e2.tr e3⟩
      rw [tV]
      simpa using H3
    · have htp : t = p := by omega
      subst htp
      refine ⟨e2, V.take t ++ u :: V.drop t, ?_, so_put (by rw [List.take_append_drop]; exact hV) (fun y hy => ?_) fun y hy => ?_, by simpa using H2⟩
      · rw [List.singleton_append]
        refine List.perm_middle.trans (List.Perm.cons u ?_)
        rw [List.take_append_drop]
      · obtain ⟨i, hiy⟩ := List.mem_iff_getElem?.1 hy
        rw [List.getElem?_take] at hiy
        split at hiy
        · rename_i hit
          exact .inl (lo i y hit hiy)
        · cases hiy
      · obtain ⟨i, hiy⟩ := List.mem_iff_getElem?.1 hy
        rw [List.getElem?_drop] at hiy
        exact lt_of (hi _ y (by omega) hiy) (hT u (by simp) y (List.mem_of_getElem? hiy))
/-- One element behind a row. -/
theorem c_sym2 {P U Q : List E} {v : E} (h : SS w s (P ++ U ++ [v] ++ Q) c W) (hU : So W U) (hT : Tg U [v]) (hl : U.length ≠ 1) {a m : Nat} (ha : P.length = a) (hm : a + U.length = m) :
    C106 s (a : Int) (m : Int) ((m + 1 : Nat) : Int) (clos c) w fun w1 => Ext s.own w w1 ∧ ∃ M', M'.Perm (U ++ [v]) ∧ So W M' ∧ SS w1 s (P ++ M' ++ Q) c W := by
  refine T106_F92 _ _ _ _ _ _ _ ?_
  unfold S106_F92
  have hbig := h.big
  simp only [List.length_append, List.length_singleton] at hbig
  refine Srt.Br.f (by rw [i64_id (by omega)]; simp; omega) (Srt.Br.t (by rw [i64_id (by omega)]; simp; omega) ?_)
  have gv : (P ++ U ++ [v] ++ Q)[m]? = some v := by
    rw [show P ++ U ++ [v] ++ Q = (P ++ U) ++ v :: Q by simp]; exact get_mid (by simp [ha, hm])
  have gu : ∀ i u, U[i]? = some u → (P ++ U ++ [v] ++ Q)[a + i]? = some u := fun i u hi => by
    have li := (List.getElem?_eq_some_iff.1 hi).1
    rw [List.append_assoc, List.getElem?_append_left (by simp; omega), List.getElem?_append_right (by omega), show a + i - P.length = i by omega]
    exact hi
  refine ⟨fun n st w1 => ∃ p q : Nat, st = (((a + p : Nat) : Int), ((a + q : Nat) : Int)) ∧ p ≤ q ∧ q ≤ U.length ∧ n = q - p ∧ (∀ i u, i < p → U[i]? = some u → W u.1 ≤ W v.1) ∧ (∀ i u, q ≤ i → U[i]? = some u → W v.1 < W u.1) ∧ SS w1 s (P ++ U ++ [v] ++ Q) c W ∧ Ext s.own w w1, U.length,
    ⟨0, U.length, pair_eq (by omega) (by omega), by omega, Nat.le_refl _, rfl, fun i v hi => by omega, fun i v hi hv => by have := (List.getElem?_eq_some_iff.1 hv).1; omega, h, Ext.refl _ _⟩, ?_⟩
  rintro n st w1 ⟨p, q, rfl, hpq, hq, rfl, lo, hi, H1, e1⟩
  unfold S106_F92L4
  dsimp only
  refine Br.dec (fun q1 => ?_) fun q1 => ?_
  · rw [half (by omega)]
    obtain ⟨t, ht⟩ : ∃ t, (a + p + (a + q)) / 2 = a + t := ⟨(p + q) / 2, by omega⟩
    have htq : p ≤ t ∧ t < q := by omega
    rw [ht]
    have gt : U[t]? = some U[t] := List.getElem?_eq_getElem (by omega)
    generalize U[t] = u at gt
    refine H1.step_cmp gv (gu t u gt) rfl rfl fun r w2 hr H2 e2 => ?_
    by_cases q2 : r < 0
    · have hvu := hr.1 q2
      refine Srt.Br.f (by simp [q2]) ⟨t - p, by omega, p, t, rfl, by omega, by omega, rfl, lo, fun i x hix hx => ?_, H2, e1.tr e2⟩
      have := so_get hU gt hx hix
      omega
    · have hvu : W u.1 ≤ W v.1 := by
        have := fun h => q2 (hr.2 h)
        omega
      refine Srt.Br.t (by simp [q2]) (Lt.of ⟨q - (t + 1), by omega, t + 1, q, ?_, by omega, hq, rfl, fun i x hix hx => ?_, hi, H2, e1.tr e2⟩)
      · exact pair_eq (by rw [i64_id (by omega)]; omega) rfl
      · have := so_get hU hx gt (by omega)
        omega
  · have hpq2 : p = q := by omega
    subst hpq2
    refine ⟨fun n st w2 => ∃ t : Nat, st = ((a + t : Nat) : Int) ∧ p ≤ t ∧ t ≤ U.length ∧ n = t - p ∧ SS w2 s (P ++ U.take t ++ [v] ++ U.drop t ++ Q) c W ∧ Ext s.own w w2, U.length - p, ⟨U.length, by omega, by omega, Nat.le_refl _, rfl, by simpa using H1, e1⟩, ?_⟩
    rintro n st w2 ⟨t, rfl, hpt, ht, rfl, H2, e2⟩
    unfold S106_F92L3
    dsimp only
    refine Br.dec (fun q2 => ?_) fun q2 => ?_
    · obtain ⟨t, rfl⟩ : ∃ t', t = t' + 1 := ⟨t - 1, by omega⟩
      have lT : (U.take t).length = t := by rw [List.length_take]; omega
      have dU : U.drop t = U[t] :: U.drop (t + 1) := List.drop_eq_getElem_cons (by omega)
      have tU : U.take (t + 1) = U.take t ++ [U[t]] := by rw [List.take_add_one, List.getElem?_eq_getElem (by omega)]; rfl
      generalize U[t] = u at dU tU
      rw [tU] at H2
      have f : P ++ (U.take t ++ [u]) ++ [v] ++ U.drop (t + 1) ++ Q = (P ++ U.take t) ++ u :: v :: (U.drop (t + 1) ++ Q) := by simp
      rw [f] at H2
      have lP : (P ++ U.take t).length = a + t := by simp [ha, lT]
      refine H2.step_swap (i := a + t + 1) (j := a + t) (by rw [show (P ++ U.take t) ++ u :: v :: (U.drop (t + 1) ++ Q) = (P ++ U.take t ++ [u]) ++ v :: (U.drop (t + 1) ++ Q) by simp]; exact get_mid (by simp [ha, lT]; omega)) (get_mid lP) (by omega) (by omega) (by rw [i64_id (by omega)]; omega) fun w3 H3 e3 => ?_
      rw [swap_adj' lP] at H3
      refine ⟨t - p, by omega, t, by rw [i64_id (by omega)]; omega, by omega, by omega, rfl, ?_, e2.tr e3⟩
      rw [dU]
      simpa using H3
    · have htp : t = p := by omega
      subst htp
      refine ⟨e2, U.take t ++ v :: U.drop t, ?_, so_put (by rw [List.take_append_drop]; exact hU) (fun y hy => ?_) fun y hy => ?_, by simpa using H2⟩
      · refine (List.perm_middle.trans (List.Perm.cons v ?_)).trans (List.perm_append_singleton v U).symm
        rw [List.take_append_drop]
      · obtain ⟨i, hiy⟩ := List.mem_iff_getElem?.1 hy
        rw [List.getElem?_take] at hiy
        split at hiy
        · rename_i hit
          exact lt_of (lo i y hit hiy) (hT y (List.mem_of_getElem? hiy) v (by simp))
        · cases hiy
      · obtain ⟨i, hiy⟩ := List.mem_iff_getElem?.1 hy
        rw [List.getElem?_drop] at hiy
        exact .inl (hi _ y (by omega) hiy)
end
end Srt
end Go.Proofs.YtjkoafjnmkchdaaDoor

/- A stable sort of coins: merging by symmetry, any two rows. Conditions: sizes. -/
namespace Go.Proofs.YtjkoafjnmkchdaaDoor
namespace Srt
open Sh
set_option linter.unusedVariables false
set_option linter.unusedSimpArgs false
set_option maxRecDepth 4000
set_option maxHeartbeats 4000000
attribute [local irreducible] Ld St Nw Nn Lt LdS
theorem get_app4 {A B C D : List E} {i j : Nat} {x : E} (h : B[j]? = some x) (hi : A.length + j = i) : (A ++ B ++ C ++ D)[i]? = some x := by
  have lj := (List.getElem?_eq_some_iff.1 h).1
  rw [List.append_assoc, List.append_assoc, List.getElem?_append_right (by omega), List.getElem?_append_left (by omega), show i - A.length = j by omega]
  exact h
theorem get_app4' {A B C D : List E} {i j : Nat} {x : E} (h : C[j]? = some x) (hi : A.length + B.length + j = i) : (A ++ B ++ C ++ D)[i]? = some x := by
  have lj := (List.getElem?_eq_some_iff.1 h).1
  rw [List.append_assoc, List.getElem?_append_right (by rw [List.length_append]; omega), List.getElem?_append_left (by rw [List.length_append]; omega), List.length_append, show i - (A.length + B.length) = j by omega]
  exact h
section
variable {w w1 : World} {s : Slc} {T : List E} {W : Nat → Int} {c : Addr}
theorem last_of {l : List E} {k : Nat} {x : E} (h : l[k]? = some x) : ∃ A, l.take (k + 1) = A ++ [x] := ⟨l.take k, by rw [List.take_add_one, h]; rfl⟩
theorem first_of {l : List E} {k : Nat} {x : E} (h : l[k]? = some x) : ∃ B, l.drop k = x :: B := by
  obtain ⟨lk, rfl⟩ := List.getElem?_eq_some_iff.1 h
  exact ⟨l.drop (k + 1), List.drop_eq_getElem_cons lk⟩
theorem c_sym : ∀ (N : Nat) {w : World} {P U V Q : List E} {a m b : Nat}, SS w s (P ++ U ++ V ++ Q) c W → So W U → So W V → Tg U V → U ≠ [] → V ≠ [] → P.length = a → a + U.length = m → m + V.length = b → U.length + V.length ≤ N →
    C106 s (a : Int) (m : Int) (b : Int) (clos c) w fun w1 => Ext s.own w w1 ∧ ∃ M', M'.Perm (U ++ V) ∧ So W M' ∧ SS w1 s (P ++ M' ++ Q) c W
  | 0, w, P, U, V, Q, a, m, b, _, _, _, _, hU0, _, _, _, _, hN => absurd (List.eq_nil_of_length_eq_zero (by omega)) hU0
  | N + 1, w, P, U, V, Q, a, m, b, h, hU, hV, hT, hU0, hV0, ha, hm, hb, hN => by
    have lU := List.length_pos_iff.2 hU0
    have lV := List.length_pos_iff.2 hV0
    by_cases u1 : U.length = 1
    · obtain ⟨u, rfl⟩ : ∃ u, U = [u] := by
        match U, u1 with
        | [u], _ => exact ⟨u, rfl⟩
      have := c_sym1 (u := u) h hV hT ha (b := b) (by simp at hm; omega)
      simp only [List.length_singleton] at hm
      rw [hm] at this
      exact this
    by_cases v1 : V.length = 1
    · obtain ⟨v, rfl⟩ : ∃ v, V = [v] := by
        match V, v1 with
        | [v], _ => exact ⟨v, rfl⟩
      have := c_sym2 (v := v) h hU hT u1 ha hm
      simp only [List.length_singleton] at hb
      rw [hb] at this
      exact this
    refine T106_F92 _ _ _ _ _ _ _ ?_
    unfold S106_F92
    have hbig := h.big
    simp only [List.length_append] at hbig
    refine Srt.Br.f (by rw [i64_id (by omega)]; simp; omega) (Srt.Br.f (by rw [i64_id (by omega)]; simp; omega) (Lt.of ?_))
    rw [half (by omega)]
    obtain ⟨mid, hmid⟩ : ∃ mid, (a + b) / 2 = mid := ⟨_, rfl⟩
    rw [hmid]
    have hm1 : a < mid ∧ mid < b := by omega
    rw [i64_id (n := (mid : Int) + (m : Int)) (by omega)]
    -- the search
    obtain ⟨lo, hi, hlohi, hlo1, hlo2, hhi1, hhi2⟩ : ∃ lo hi : Nat, (lo, hi) = (if m > mid then (mid + m - b, mid) else (a, m)) ∧ a ≤ lo ∧ mid + m - b ≤ lo ∧ hi ≤ mid ∧ hi ≤ m := by
      by_cases q : m > mid
      · exact ⟨_, _, by rw [if_pos q], by omega, by omega, by omega, by omega⟩
      · exact ⟨_, _, by rw [if_neg q], by omega, by omega, by omega, by omega⟩
    have hle : lo ≤ hi := by
      by_cases q : m > mid
      · rw [if_pos q] at hlohi
        cases hlohi
        omega
      · rw [if_neg q] at hlohi
        cases hlohi
        omega
    refine ⟨fun (st : Int × Int) w1 => st = ((lo : Int), (hi : Int)) ∧ w1 = w, ?_, ?_⟩
    rotate_left
    · refine Lt.of ?_
      by_cases q : m > mid
      · rw [if_pos q] at hlohi
        cases hlohi
        refine Srt.Br.t (by simp; omega) ⟨pair_eq (by rw [i64_id (by omega)]; omega) rfl, rfl⟩
      · rw [if_neg q] at hlohi
        cases hlohi
        exact Srt.Br.f (by simp; omega) ⟨rfl, rfl⟩
    rintro st w0 ⟨rfl, rfl⟩
    unfold S106_F92J3
    dsimp only
    have gU : ∀ k, lo ≤ k → k < hi → ∃ x, U[k - a]? = some x ∧ (P ++ U ++ V ++ Q)[k]? = some x := fun k h1 h2 => by
      have hk : k - a < U.length := by omega
      exact ⟨_, List.getElem?_eq_getElem hk, get_app4 (List.getElem?_eq_getElem hk) (by omega)⟩
    have gV : ∀ k, lo ≤ k → k < hi → ∃ y, V[mid - 1 - k]? = some y ∧ (P ++ U ++ V ++ Q)[mid + m - 1 - k]? = some y := fun k h1 h2 => by
      have hk : mid - 1 - k < V.length := by omega
      exact ⟨_, List.getElem?_eq_getElem hk, get_app4' (List.getElem?_eq_getElem hk) (by omega)⟩
    refine ⟨fun n st w1 => ∃ p q : Nat, st = ((p : Int), (q : Int)) ∧ lo ≤ p ∧ p ≤ q ∧ q ≤ hi ∧ n = q - p ∧ (∀ k x y, lo ≤ k → k < p → U[k - a]? = some x → V[mid - 1 - k]? = some y → W x.1 ≤ W y.1) ∧ (∀ k x y, q ≤ k → k < hi → U[k - a]? = some x → V[mid - 1 - k]? = some y → W y.1 < W x.1) ∧ SS w1 s (P ++ U ++ V ++ Q) c W ∧ Ext s.own w0 w1, hi - lo,
      ⟨lo, hi, rfl, Nat.le_refl _, hle, Nat.le_refl _, rfl, fun k x y h1 h2 => by omega, fun k x y h1 h2 => by omega, h, Ext.refl _ _⟩, ?_⟩
    rintro n st w1 ⟨p, q, rfl, hp1, hpq, hq1, rfl, below, above, H1, e1⟩
    unfold S106_F92L5
    dsimp only
    refine Br.dec (fun q1 => Lt.of ?_) fun q1 => ?_
    · rw [half (by omega)]
      obtain ⟨t, ht⟩ : ∃ t, (p + q) / 2 = t := ⟨_, rfl⟩
      rw [ht]
      have htq : p ≤ t ∧ t < q := by omega
      obtain ⟨x, hx, gx⟩ := gU t (by omega) (by omega)
      obtain ⟨y, hy, gy⟩ := gV t (by omega) (by omega)
      have ec : IntKind.i64.wrap (IntKind.i64.wrap ((mid : Int) + (m : Int) - 1) - (t : Int)) = ((mid + m - 1 - t : Nat) : Int) := by
        rw [i64_id (n := (mid : Int) + (m : Int) - 1) (by omega), i64_id (by omega)]
        omega
      refine H1.step_cmp gy gx ec rfl fun r w2 hr H2 e2 => ?_
      by_cases q2 : r < 0
      · have hyx := hr.1 q2
        refine Srt.Br.f (by simp [q2]) ⟨t - p, by omega, p, t, rfl, hp1, by omega, by omega, rfl, below, fun k x' y' h1 h2 hx' hy' => ?_, H2, e1.tr e2⟩
        have a1 := so_get hU hx hx' (by omega)
        have a2 := so_get hV hy' hy (by omega)
        omega
      · have hxy : W x.1 ≤ W y.1 := by
          have := fun h => q2 (hr.2 h)
          omega
        refine Srt.Br.t (by simp [q2]) ⟨q - (t + 1), by omega, t + 1, q, pair_eq (by rw [i64_id (by omega)]; omega) rfl, by omega, by omega, hq1, rfl, fun k x' y' h1 h2 hx' hy' => ?_, above, H2, e1.tr e2⟩
        have a1 := so_get hU hx' hx (by omega)
        have a2 := so_get hV hy hy' (by omega)
        omega
    · have : p = q := by omega
      subst this
      have hend : IntKind.i64.wrap ((mid : Int) + (m : Int) - (p : Int)) = ((mid + m - p : Nat) : Int) := by rw [i64_id (by omega)]; omega
      rw [hend]
      obtain ⟨U1, U2, eU, lU1⟩ := cut_at (l := U) (i := p - a) (by omega)
      obtain ⟨V1, V2, eV, lV1⟩ := cut_at (l := V) (i := mid - p) (by omega)
      have lU2 : U2.length = m - p := by have := congrArg List.length eU; rw [List.length_append] at this; omega
      have lV2 : V2.length = b - (mid + m - p) := by have := congrArg List.length eV; rw [List.length_append] at this; omega
      have tU : U.take (p - a) = U1 := by rw [eU, ← lU1]; simp
      have dU : U.drop (p - a) = U2 := by rw [eU, ← lU1]; simp
      have tV : V.take (mid - p) = V1 := by rw [eV, ← lV1]; simp
      have dV : V.drop (mid - p) = V2 := by rw [eV, ← lV1]; simp
      have cross : ∀ x ∈ U1 ++ V1, ∀ y ∈ U2 ++ V2, lt W x y := by
        refine sym_cross (by rw [← eU]; exact hU) (by rw [← eV]; exact hV) (by rw [← eU, ← eV]; exact hT) ?_ ?_
        · by_cases hpl : p = lo
          · by_cases q : m > mid
            · rw [if_pos q] at hlohi
              cases hlohi
              exact .inr (.inl (List.eq_nil_of_length_eq_zero (by omega)))
            · rw [if_neg q] at hlohi
              cases hlohi
              exact .inl (List.eq_nil_of_length_eq_zero (by omega))
          · refine .inr (.inr ?_)
            obtain ⟨x, hx, _⟩ := gU (p - 1) (by omega) (by omega)
            obtain ⟨y, hy, _⟩ := gV (p - 1) (by omega) (by omega)
            obtain ⟨A, hA⟩ := last_of hx
            obtain ⟨B, hB⟩ := first_of hy
            rw [show p - 1 - a + 1 = p - a by omega, tU] at hA
            rw [show mid - 1 - (p - 1) = mid - p by omega, dV] at hB
            exact ⟨A, x, y, B, hA, hB, below (p - 1) x y (by omega) (by omega) hx hy⟩
        · by_cases hph : p = hi
          · by_cases q : m > mid
            · rw [if_pos q] at hlohi
              cases hlohi
              exact .inl (List.eq_nil_of_length_eq_zero (by omega))
            · rw [if_neg q] at hlohi
              cases hlohi
              exact .inr (.inl (List.eq_nil_of_length_eq_zero (by omega)))
          · refine .inr (.inr ?_)
            obtain ⟨x, hx, _⟩ := gU p (by omega) (by omega)
            obtain ⟨y, hy, _⟩ := gV p (by omega) (by omega)
            obtain ⟨A, hA⟩ := last_of hy
            obtain ⟨B, hB⟩ := first_of hx
            rw [show mid - 1 - p + 1 = mid - p by omega, tV] at hA
            rw [dU] at hB
            exact ⟨A, y, x, B, hA, hB, above p x y (by omega) (by omega) hx hy⟩
      subst eU eV
      simp only [List.length_append] at *
      obtain ⟨sU1, sU2, _⟩ := so_app.1 hU
      obtain ⟨sV1, sV2, _⟩ := so_app.1 hV
      have T1 : Tg U1 V1 := hT.sub (fun a ha => List.mem_append_left _ ha) (fun a ha => List.mem_append_left _ ha)
      have T2 : Tg U2 V2 := hT.sub (fun a ha => List.mem_append_right _ ha) (fun a ha => List.mem_append_right _ ha)
      refine ⟨fun (_ : Unit) w2 => SS w2 s (P ++ U1 ++ V1 ++ (U2 ++ V2 ++ Q)) c W ∧ Ext s.own w0 w2, ?_, ?_⟩
      rotate_left
      · by_cases q2 : p < m ∧ m < mid + m - p
        · refine Srt.Br.t (by simp; omega) (Srt.Br.t (by simp; omega) ?_)
          refine (c_rot (P := P ++ U1) (U := U2) (V := V1) (Q := V2 ++ Q) (by simpa using H1) (by simp; omega) (by omega) (by omega) (by intro e; rw [e] at lU2; simp at lU2; omega) (by intro e; rw [e] at lV1; simp at lV1; omega) _).mono ?_
          rintro w2 ⟨e2, H2⟩
          exact ⟨by simpa using H2, e1.tr e2⟩
        · have hnil : U2 = [] ∨ V1 = [] := by
            rcases Nat.lt_or_ge p m with h1 | h1
            · exact .inr (List.eq_nil_of_length_eq_zero (by omega))
            · exact .inl (List.eq_nil_of_length_eq_zero (by omega))
          have H1' : SS w1 s (P ++ U1 ++ V1 ++ (U2 ++ V2 ++ Q)) c W := by
            rcases hnil with e | e
            · rw [e] at H1 ⊢; simpa using H1
            · rw [e] at H1 ⊢; simpa using H1
          refine Br.dec (fun q3 => Br.dec (fun q4 => by omega) fun q4 => ⟨H1', e1⟩) fun q3 => ⟨H1', e1⟩
      rintro _ w2 ⟨H2, e2⟩
      unfold S106_F92J2
      dsimp only
      rw [half (by omega), hmid]
      refine ⟨fun (_ : Unit) w3 => Ext s.own w0 w3 ∧ ∃ M1, M1.Perm (U1 ++ V1) ∧ So W M1 ∧ SS w3 s (P ++ M1 ++ (U2 ++ V2 ++ Q)) c W, ?_, ?_⟩
      rotate_left
      · by_cases q2 : a < p ∧ p < mid
        · refine Srt.Br.t (by simp; omega) (Lt.of (Srt.Br.t (by simp; omega) ?_))
          refine (c_sym N (P := P) (U := U1) (V := V1) (Q := U2 ++ V2 ++ Q) (a := a) (m := p) (b := mid) H2 sU1 sV1 T1 (by intro e; rw [e] at lU1; simp at lU1; omega) (by intro e; rw [e] at lV1; simp at lV1; omega) ha (by omega) (by omega) (by omega)).mono ?_
          rintro w3 ⟨e3, M1, p1, s1, H3⟩
          exact ⟨e2.tr e3, M1, p1, s1, H3⟩
        · have hs : So W (U1 ++ V1) := by
            rcases Nat.lt_or_ge a p with h1 | h1
            · have : V1 = [] := List.eq_nil_of_length_eq_zero (by omega)
              rw [this]; simpa using sU1
            · have : U1 = [] := List.eq_nil_of_length_eq_zero (by omega)
              rw [this]; simpa using sV1
          refine Br.dec (fun q3 => Lt.of (Br.dec (fun q4 => by omega) fun q4 => ⟨e2, U1 ++ V1, .refl _, hs, by simpa using H2⟩)) fun q3 => ⟨e2, U1 ++ V1, .refl _, hs, by simpa using H2⟩
      rintro _ w3 ⟨e3, M1, p1, s1, H3⟩
      unfold S106_F92J1
      dsimp only
      rw [half (by omega), hmid, hend]
      have lM1 : M1.length = mid - a := by rw [p1.length_eq, List.length_append]; omega
      have fin : ∀ w4, Ext s.own w0 w4 → ∀ M2, M2.Perm (U2 ++ V2) → So W M2 → SS w4 s (P ++ M1 ++ M2 ++ Q) c W → Ext s.own w0 w4 ∧ ∃ M', M'.Perm (U1 ++ U2 ++ (V1 ++ V2)) ∧ So W M' ∧ SS w4 s (P ++ M' ++ Q) c W := fun w4 e4 M2 p2 s2 H4 => by
        refine ⟨e4, M1 ++ M2, ?_, so_app.2 ⟨s1, s2, fun x hx y hy => cross x (p1.mem_iff.1 hx) y (p2.mem_iff.1 hy)⟩, by simpa using H4⟩
        refine (p1.append p2).trans ?_
        have : (V1 ++ (U2 ++ V2)).Perm (U2 ++ (V1 ++ V2)) := by
          rw [← List.append_assoc, ← List.append_assoc]
          exact List.Perm.append_right _ List.perm_append_comm
        simpa using List.Perm.append_left U1 this
      by_cases q2 : mid < mid + m - p ∧ mid + m - p < b
      · refine Lt.of (Srt.Br.t (by simp; omega) (Srt.Br.t (by simp; omega) ?_))
        refine (c_sym N (P := P ++ M1) (U := U2) (V := V2) (Q := Q) (a := mid) (m := mid + m - p) (b := b) (by simpa using H3) sU2 sV2 T2 (by intro e; rw [e] at lU2; simp at lU2; omega) (by intro e; rw [e] at lV2; simp at lV2; omega) (by rw [List.length_append]; omega) (by omega) (by omega) (by omega)).mono ?_
        rintro w4 ⟨e4, M2, p2, s2, H4⟩
        exact fin w4 (e3.tr e4) M2 p2 s2 H4
      · have hs : So W (U2 ++ V2) := by
          rcases Nat.lt_or_ge mid (mid + m - p) with h1 | h1
          · have : V2 = [] := List.eq_nil_of_length_eq_zero (by omega)
            rw [this]; simpa using sU2
          · have : U2 = [] := List.eq_nil_of_length_eq_zero (by omega)
            rw [this]; simpa using sV2
        have F := fin w3 e3 (U2 ++ V2) (.refl _) hs (by simpa using H3)
        refine Lt.of (Br.dec (fun q3 => Br.dec (fun q4 => by omega) fun q4 => F) fun q3 => F)
end
end Srt
end Go.Proofs.YtjkoafjnmkchdaaDoor

/- A stable sort of coins: the whole sort. Conditions: sizes. -/
namespace Go.Proofs.YtjkoafjnmkchdaaDoor
namespace Srt
open Sh
set_option linter.unusedVariables false
set_option linter.unusedSimpArgs false
set_option maxRecDepth 4000
set_option maxHeartbeats 4000000
attribute [local irreducible] Ld St Nw Nn Lt LdS
theorem Sz.tail {bs : Nat} {B C : List E} {r : List (List E)} (h : Sz bs (B :: C :: r)) : Sz bs r := by
  match r, h with
  | [], _ => trivial
  | D :: r, h => exact h.2.2
theorem flat_snoc (Ms : List (List E)) (M : List E) : (Ms ++ [M]).flatten = Ms.flatten ++ M := by simp
section
variable {w w1 : World} {s : Slc} {T : List E} {W : Nat → Int} {c : Addr}
theorem c_stable (h : SS w s T c W) (hT : T.Pairwise fun x y => x.2 < y.2) : C101 s ((T.length : Nat) : Int) (clos c) w fun w1 => Ext s.own w w1 ∧ ∃ T', T'.Perm T ∧ So W T' ∧ SS w1 s T' c W := by
  refine T101_F92 _ _ _ _ _ ?_
  unfold S101_F92
  have hbig := h.big
  have tagged : ∀ k x y, x ∈ T.take k → y ∈ T.drop k → x.2 < y.2 := fun k x y hx hy => by
    have := hT
    rw [← List.take_append_drop k T] at this
    exact (List.pairwise_append.1 this).2.2 x hx y hy
  refine ⟨fun n st w1 => ∃ (k : Nat) (Ms : List (List E)), st = (((20 * k : Nat) : Int), ((20 * k + 20 : Nat) : Int)) ∧ 20 * k ≤ T.length ∧ n = T.length - 20 * k ∧ (∀ M ∈ Ms, M.length = 20) ∧ Bk W Ms ∧ Ms.flatten.Perm (T.take (20 * k)) ∧ SS w1 s (Ms.flatten ++ T.drop (20 * k)) c W ∧ Ext s.own w w1, T.length,
    ⟨0, [], rfl, by omega, rfl, fun M hM => (by cases hM), ⟨fun B hB => (by cases hB), List.Pairwise.nil⟩, by simp, by simpa using h, Ext.refl _ _⟩, ?_⟩
  rintro n st w1 ⟨k, Ms, rfl, hk, rfl, hM, hB, hp, H1, e1⟩
  unfold S101_F92L3
  dsimp only
  have lMs : Ms.flatten.length = 20 * k := by rw [hp.length_eq, List.length_take]; omega
  have tgM : ∀ M', (∀ x ∈ M', x ∈ T.drop (20 * k)) → ∀ A ∈ Ms, Tg A M' := fun M' hM' A hA a ha b hb => tagged (20 * k) a b (hp.mem_iff.1 (List.mem_flatten.2 ⟨A, hA, ha⟩)) (hM' b hb)
  refine Br.dec (fun q => ?_) fun q => ?_
  · have hsplit : T.drop (20 * k) = (T.drop (20 * k)).take 20 ++ T.drop (20 * k + 20) := by
      rw [← List.drop_drop, List.take_append_drop]
    have lM : ((T.drop (20 * k)).take 20).length = 20 := by rw [List.length_take, List.length_drop]; omega
    have hTM : ((T.drop (20 * k)).take 20).Pairwise fun x y => x.2 < y.2 := (hT.drop).take
    have htk : T.take (20 * k + 20) = T.take (20 * k) ++ (T.drop (20 * k)).take 20 := List.take_add
    have hsub : ∀ x ∈ (T.drop (20 * k)).take 20, x ∈ T.drop (20 * k) := fun x hx => List.mem_of_mem_take hx
    rw [hsplit, ← List.append_assoc] at H1
    generalize (T.drop (20 * k)).take 20 = M at *
    refine (c_ins (P := Ms.flatten) (M := M) (Q := T.drop (20 * k + 20)) H1 hTM lMs (by omega)).mono ?_
    rintro w2 ⟨e2, M', pM, sM, H2⟩
    have ek : 20 * (k + 1) = 20 * k + 20 := by omega
    refine ⟨T.length - 20 * (k + 1), by omega, k + 1, Ms ++ [M'], pair_eq (by omega) (by rw [i64_id (by omega)]; omega), by omega, rfl, fun X hX => ?_, ⟨fun X hX => ?_, ?_⟩, ?_, ?_, e1.tr e2⟩
    · rcases List.mem_append.1 hX with hX | hX
      · exact hM X hX
      · rw [List.mem_singleton.1 hX, pM.length_eq, lM]
    · rcases List.mem_append.1 hX with hX | hX
      · exact hB.so X hX
      · rw [List.mem_singleton.1 hX]; exact sM
    · refine List.pairwise_append.2 ⟨hB.tg, List.pairwise_singleton _ _, fun A hA X hX => ?_⟩
      rw [List.mem_singleton.1 hX]
      exact tgM M' (fun x hx => hsub x (pM.mem_iff.1 hx)) A hA
    · rw [flat_snoc, ek, htk]
      exact hp.append pM
    · rw [flat_snoc, ek]
      exact H2
  · refine (c_ins (P := Ms.flatten) (M := T.drop (20 * k)) (Q := []) (by simpa using H1) (hT.drop) lMs (b := T.length) (by rw [List.length_drop]; omega)).mono ?_
    rintro w2 ⟨e2, M', pM, sM, H2⟩
    have lM' : M'.length = T.length - 20 * k := by rw [pM.length_eq, List.length_drop]
    obtain ⟨Bs, hfl, hsz, hbk⟩ : ∃ Bs, Bs.flatten = Ms.flatten ++ M' ∧ Sz 20 Bs ∧ Bk W Bs := by
      by_cases hnil : M' = []
      · refine ⟨Ms, by rw [hnil]; simp, ?_, hB⟩
        have := Sz.app (bs := 20) (Rs := []) hM trivial (by decide)
        simpa using this
      · refine ⟨Ms ++ [M'], flat_snoc _ _, Sz.app hM ⟨List.length_pos_iff.2 hnil, by omega⟩ (by decide), ⟨fun X hX => ?_, ?_⟩⟩
        · rcases List.mem_append.1 hX with hX | hX
          · exact hB.so X hX
          · rw [List.mem_singleton.1 hX]; exact sM
        · refine List.pairwise_append.2 ⟨hB.tg, List.pairwise_singleton _ _, fun A hA X hX => ?_⟩
          rw [List.mem_singleton.1 hX]
          exact tgM M' (fun x hx => pM.mem_iff.1 hx) A hA
    have hperm : Bs.flatten.Perm T := by
      rw [hfl]
      have := hp.append pM
      rwa [List.take_append_drop] at this
    have H2 : SS w2 s Bs.flatten c W := by rw [hfl]; simpa using H2
    refine ⟨fun n st w1 => ∃ (bs : Nat) (Bs : List (List E)), st = ((bs : Nat) : Int) ∧ 20 ≤ bs ∧ bs ≤ 2 * T.length + 20 ∧ n = T.length - bs ∧ Sz bs Bs ∧ Bk W Bs ∧ Bs.flatten.Perm T ∧ SS w1 s Bs.flatten c W ∧ Ext s.own w w1, T.length - 20, ⟨20, Bs, rfl, by omega, by omega, rfl, hsz, hbk, hperm, H2, e1.tr e2⟩, ?_⟩
    clear hperm H2 hsz hbk hfl e2 H1 e1
    rintro n st w3 ⟨bs, Bs, rfl, hb20, hbT, rfl, hsz, hbk, hperm, H3, e3⟩
    unfold S101_F92L2
    refine Br.dec (fun q2 => ?_) fun q2 => ⟨e3, _, hperm, hbk.done hsz (by omega) (by rw [hperm.length_eq]; omega), H3⟩
    rw [i64_id (n := 2 * (bs : Int)) (by omega)]
    refine ⟨fun n st w1 => ∃ (Ms Rs : List (List E)), st = (((Ms.length * (2 * bs) : Nat) : Int), ((Ms.length * (2 * bs) + 2 * bs : Nat) : Int)) ∧ n = Rs.length ∧ (∀ M ∈ Ms, M.length = 2 * bs) ∧ Sz bs Rs ∧ Bk W (Ms ++ Rs) ∧ (Ms ++ Rs).flatten.Perm T ∧ SS w1 s (Ms ++ Rs).flatten c W ∧ Ext s.own w w1, Bs.length,
      ⟨[], Bs, pair_eq (by simp) (by simp), rfl, fun M hM => (by cases hM), hsz, hbk, hperm, H3, e3⟩, ?_⟩
    clear hperm H3 hsz hbk e3
    rintro n st w4 ⟨Ms, Rs, rfl, rfl, hM, hsz, hbk, hperm, H4, e4⟩
    unfold S101_F92L1
    dsimp only
    have lMs := flat_full hM
    have ltot : Ms.flatten.length + Rs.flatten.length = T.length := by rw [← List.length_append, ← List.flatten_append]; exact hperm.length_eq
    have hb0 : 1 ≤ bs := by omega
    have fin : ∀ (w5 : World) (Rs' : List (List E)), Sz (2 * bs) Rs' → Bk W (Ms ++ Rs') → (Ms ++ Rs').flatten.Perm T → SS w5 s (Ms ++ Rs').flatten c W → Ext s.own w w5 → ∃ n', n' < T.length - bs ∧ ∃ (bs' : Nat) (Bs : List (List E)), IntKind.i64.wrap ((bs : Int) * 2) = ((bs' : Nat) : Int) ∧ 20 ≤ bs' ∧ bs' ≤ 2 * T.length + 20 ∧ n' = T.length - bs' ∧ Sz bs' Bs ∧ Bk W Bs ∧ Bs.flatten.Perm T ∧ SS w5 s Bs.flatten c W ∧ Ext s.own w w5 :=
      fun w5 Rs' z1 z2 z3 z4 z5 => ⟨T.length - 2 * bs, by omega, 2 * bs, Ms ++ Rs', by rw [i64_id (by omega)]; omega, by omega, by omega, rfl, Sz.app hM z1 (by omega), z2, z3, z4, z5⟩
    generalize hA : Ms.length * (2 * bs) = A at *
    rw [i64_id (n := (A : Int) + (bs : Int)) (by omega), show (A : Int) + (bs : Int) = ((A + bs : Nat) : Int) by omega]
    refine Br.dec (fun q3 => ?_) fun q3 => Br.dec (fun q4 => ?_) fun q4 => ?_
    · match Rs, hsz, hbk, hperm, H4, ltot with
      | [], _, _, _, _, ltot => simp only [List.flatten_nil, List.length_nil] at ltot; omega
      | [B], hsz, _, _, _, ltot =>
        have h2 := hsz.2
        simp only [List.flatten_cons, List.flatten_nil, List.length_append, List.length_nil, List.append_nil] at ltot
        omega
      | B :: C :: r, hsz, hbk, hperm, H4, ltot =>
        have lB := hsz.1
        have lC : C.length = bs := by
          match r, hsz with
          | [], hsz =>
            have h2 := hsz.2.2
            simp only [List.flatten_cons, List.flatten_nil, List.length_append, List.length_nil, List.append_nil] at ltot
            omega
          | D :: r, hsz => exact hsz.2.1
        have sB := hbk.so B (by simp)
        have sC := hbk.so C (by simp)
        have tBC : Tg B C := by
          have := (List.pairwise_append.1 hbk.tg).2.1
          exact (List.pairwise_cons.1 this).1 C (by simp)
        refine (c_sym (B.length + C.length) (P := Ms.flatten) (U := B) (V := C) (Q := r.flatten) (a := A) (m := A + bs) (b := A + 2 * bs) (by simpa using H4) sB sC tBC (by intro e; rw [e] at lB; simp at lB; omega) (by intro e; rw [e] at lC; simp at lC; omega) (by omega) (by omega) (by omega) (Nat.le_refl _)).mono ?_
        rintro w5 ⟨e5, M, pM, sM, H5⟩
        have eq1 : (Ms ++ [M]) ++ r = Ms ++ M :: r := by simp
        refine ⟨r.length, by simp; omega, Ms ++ [M], r, ?_, rfl, fun X hX => ?_, hsz.tail, by rw [eq1]; exact hbk.merge sM pM, by rw [eq1]; exact merge_perm hperm pM, by rw [eq1]; simpa using H5, e4.tr e5⟩
        · have eA : (Ms ++ [M]).length * (2 * bs) = A + 2 * bs := by rw [List.length_append, Nat.add_mul, hA]; simp
          rw [eA]
          exact pair_eq rfl (by rw [i64_id (n := 2 * (bs : Int)) (by omega), i64_id (by omega)]; omega)
        · rcases List.mem_append.1 hX with hX | hX
          · exact hM X hX
          · rw [List.mem_singleton.1 hX, pM.length_eq, List.length_append]; omega
    · match Rs, hsz, hbk, hperm, H4, ltot with
      | [], _, _, _, _, ltot => simp only [List.flatten_nil, List.length_nil] at ltot; omega
      | [B], hsz, _, _, _, ltot =>
        have h2 := hsz.2
        simp only [List.flatten_cons, List.flatten_nil, List.length_append, List.length_nil, List.append_nil] at ltot
        omega
      | B :: C :: D :: r, hsz, _, _, _, ltot =>
        have lB := hsz.1
        have lC := hsz.2.1
        simp only [List.flatten_cons, List.flatten_nil, List.length_append, List.length_nil, List.append_nil] at ltot
        omega
      | [B, C], hsz, hbk, hperm, H4, ltot =>
        have lB := hsz.1
        have lC := hsz.2
        have sB := hbk.so B (by simp)
        have sC := hbk.so C (by simp)
        have tBC : Tg B C := by
          have := (List.pairwise_append.1 hbk.tg).2.1
          exact (List.pairwise_cons.1 this).1 C (by simp)
        simp only [List.flatten_cons, List.flatten_nil, List.append_nil, List.length_append] at ltot
        refine (c_sym (B.length + C.length) (P := Ms.flatten) (U := B) (V := C) (Q := []) (a := A) (m := A + bs) (b := T.length) (by simpa using H4) sB sC tBC (by intro e; rw [e] at lB; simp at lB; omega) (by intro e; have := lC.1; rw [e] at this; simp at this) (by omega) (by omega) (by omega) (Nat.le_refl _)).mono ?_
        rintro w5 ⟨e5, M, pM, sM, H5⟩
        have lM : M.length = B.length + C.length := by rw [pM.length_eq, List.length_append]
        have hlc := lC.1
        have hlc2 := lC.2
        exact fin w5 [M] ⟨by omega, by omega⟩ (hbk.merge sM pM) (merge_perm hperm pM) (by simpa using H5) (e4.tr e5)
    · match Rs, hsz, hbk, hperm, H4, ltot with
      | [], hsz, hbk, hperm, H4, ltot => exact fin w4 [] trivial hbk hperm H4 e4
      | [B], hsz, hbk, hperm, H4, ltot => exact fin w4 [B] ⟨hsz.1, by have := hsz.2; omega⟩ hbk hperm H4 e4
      | B :: C :: r, hsz, _, _, _, ltot =>
        have lB := hsz.1
        have lC := (Sz.len hb0 hsz.2 C (by simp)).1
        simp only [List.flatten_cons, List.flatten_nil, List.length_append, List.length_nil, List.append_nil] at ltot
        omega
theorem c_sort (h : SS w s T c W) (hT : T.Pairwise fun x y => x.2 < y.2) : C91 s (clos c) w fun w1 => Ext s.own w w1 ∧ ∃ T', T'.Perm T ∧ So W T' ∧ SS w1 s T' c W := by
  refine T91_F92 _ _ _ _ ?_
  unfold S91_F92
  rw [h.row.len]
  exact c_stable h hT
end
end Srt
end Go.Proofs.YtjkoafjnmkchdaaDoor

/- What 'append(s, make(n)...)' does to a nil slice; a slice cut to nothing. Conditions: sizes. -/
namespace Go.Proofs.YtjkoafjnmkchdaaDoor
namespace Sh
set_option linter.unusedVariables false
set_option linter.unusedSimpArgs false
section
variable {P : Program} {t e ti : TypeId} {k B : Nat} {z : Value} {w : World} {ty : TypeId}
theorem El.grow (h : El P t e k B z) (hti : P.underlying ti = some (.int .i64)) {n : Nat} (hn : 0 < n) (hk : 0 < k) (hb : n * B ≤ 140737488355328) (h63 : n ≤ 4611686018427387904) :
    ∃ s' w', RunV P (Builtin.append_ #[t, ti] ty #[Slc.v ⟨none, 0, 0⟩, .int .i64 (n : Int)]) w (Slc.v s') w' ∧ Row w' (s'.cut k 0 0 s'.cap) e k [] ∧ Ext (fun _ => False) w w' ∧ (∀ j, s'.own j → w.heap.size ≤ j) := by
  obtain ⟨i, hi, rfl, rfl, hz⟩ := h.info
  have hge := grownCap_ge w n 0 e
  have hfit : ¬ (281474976710656 < Builtin.nextslicecap n 0 * i.bytes) := by
    have := growslice_fits (need := n) (old := 0) (bytes := i.bytes) hn hb
    omega
  have h6 : ¬ (9223372036854775807 < (n : Int)) := by omega
  have hw : IntKind.i64.wrap (n : Int) = (n : Int) := IntWalk.i64_in n (by omega)
  have hn0 : ¬ (n = 0) := by omega
  have hk0 : ¬ (i.size = 0) := by omega
  have hbytes : ¬ (281474976710656 < (n : Int) * (i.bytes : Int)) := by
    have : ((n * i.bytes : Nat) : Int) ≤ 140737488355328 := by omega
    rw [Int.natCast_mul] at this
    omega
  have hneg : ¬ ((n : Int) < 0) := by omega
  refine ⟨⟨some ⟨w.heap.size, 0, none⟩, n, grownCap w n 0 e⟩, w.drew.alloc (.cells (Builtin.zeroCells z.cells n ++ Builtin.zeroCells z.cells (grownCap w n 0 e - n)) e), ?_, ⟨by simp [Slc.cut], .inr ⟨w.heap.size, _, ?_, Blk.new w.drew _ _, ?_, ?_, ?_⟩⟩, ((Ext.refl _ w).drew).alloc _, fun j hj => ?_⟩
  · simp [RunV, Slc.v, Builtin.append_, run_underlying h.und, run_underlying hti, sizeOf, typeInfo, zeroValue, asInt, asIntOf, hi, hz, hw, hneg, hbytes, hn0, hk0, h6, hfit, Question.forced, run_firstCells_none, newRow, grownCap]
    intro h0
    have := Nat.mul_pos hn hk
    omega
  · show (if grownCap w n 0 e = 0 then some (⟨w.heap.size, 0, none⟩ : Addr) else _) = _
    rw [if_neg (by omega)]
    simp
  · exact Nat.zero_le _
  · show _ = (grownCap w n 0 e - 0) * i.size
    simp only [Array.size_append, size_zeroCells, h.cells]
    rw [← Nat.add_mul]
    congr 1
    omega
  · simp [Slc.cut]
  · obtain ⟨a, ha, rfl⟩ := hj
    cases ha
    exact Nat.le_refl _
end
end Sh
end Go.Proofs.YtjkoafjnmkchdaaDoor

/- Rows of coins as trees: joined and sorted is merged. Conditions: sizes. -/
namespace Go.Proofs.YtjkoafjnmkchdaaDoor
namespace Srt
open Sh Pm
set_option linter.unusedVariables false
set_option linter.unusedSimpArgs false
set_option maxRecDepth 4000
set_option maxHeartbeats 4000000
theorem elP : El Tryd.prog 111 112 1 8 (.pointer none) := ⟨by kernel_rfl, by kernel_rfl, by kernel_rfl, by kernel_rfl, rfl⟩
theorem Blk.ty {w : World} {b : Nat} {cs cs' : Array Value} {t t' : TypeId} (h : Blk w b cs t) (k : Blk w b cs' t') : t = t' := by
  unfold Blk at h k
  rw [h] at k
  cases k
  rfl
/-- A tree in memory. -/
def CT (w : World) (b : Nat) : Tr → Prop
  | .leaf s x => Blk w b #[.int .i64 x, .int .i64 (s : Int), .pointer none, .pointer none] 114
  | .node l r => ∃ b1 b2 : Nat, Blk w b #[.int .i64 (l.w + r.w), .int .i64 0, ptr b1, ptr b2] 114 ∧ CT w b1 l ∧ CT w b2 r
theorem CT.blk {w : World} : ∀ {b : Nat} {t : Tr}, CT w b t → ∃ cs, Blk w b cs 114 ∧ cs[0]? = some (.int .i64 t.w)
  | b, .leaf s x, h => ⟨_, h, rfl⟩
  | b, .node l r, ⟨b1, b2, h, _, _⟩ => ⟨_, h, rfl⟩
/-- Other types' blocks may turn. -/
theorem CT.keep {F : Nat → Prop} {w w' : World} (he : Ext F w w') (hF : ∀ j, F j → ∀ cs, ¬ Blk w j cs 114) : ∀ {b : Nat} {t : Tr}, CT w b t → CT w' b t
  | b, .leaf s x, h => he.blk h fun hf => hF _ hf _ h
  | b, .node l r, ⟨b1, b2, h, h1, h2⟩ => ⟨b1, b2, he.blk h fun hf => hF _ hf _ h, CT.keep he hF h1, CT.keep he hF h2⟩
theorem CT.still {w w' : World} (he : Ext (fun _ => False) w w') {b : Nat} {t : Tr} (h : CT w b t) : CT w' b t := CT.keep he (fun _ h => h.elim) h
theorem CT.wt {w : World} {b : Nat} {t : Tr} (h : CT w b t) : w.cell? ⟨b, 0, none⟩ = some (.int .i64 t.w) := by
  obtain ⟨cs, h1, h2⟩ := h.blk
  rw [h1.cell]
  exact h2
/-- A row of trees. -/
def pl (L : List (Nat × Tr)) : List Value := L.map fun p => ptr p.1
def RT (w : World) (s : Slc) (L : List (Nat × Tr)) : Prop := Row w s 112 1 (pl L) ∧ ∀ p ∈ L, CT w p.1 p.2
theorem pl_len (L : List (Nat × Tr)) : (pl L).length = L.length := by unfold pl; simp
theorem pl_app (L M : List (Nat × Tr)) : pl (L ++ M) = pl L ++ pl M := by unfold pl; simp
theorem pl_one (L : List (Nat × Tr)) : ∀ v ∈ pl L, v.oneCell' = true := by
  intro v hv
  obtain ⟨p, _, rfl⟩ := List.mem_map.1 hv
  rfl
section
variable {w w1 : World} {s s2 : Slc} {L M : List (Nat × Tr)}
theorem RT.len (h : RT w s L) : s.len = L.length := by
  have := h.1.1
  rw [pl_len] at this
  omega
theorem RT.nil (w : World) : RT w ⟨none, 0, 0⟩ [] := ⟨Row.nil _ _ _, fun p hp => by cases hp⟩
theorem RT.own_ty (h : RT w s L) {j : Nat} (hj : s.own j) : ∃ cs, Blk w j cs 112 := by
  obtain ⟨a, ha, rfl⟩ := hj
  rcases h.1.2 with rfl | ⟨g, cur, hp, hb, _⟩
  · cases ha
  · rw [hp] at ha
    cases ha
    exact ⟨_, hb⟩
theorem own_coin (h : RT w s L) : ∀ j, s.own j → ∀ cs, ¬ Blk w j cs 114 := fun j hj cs hb => by
  obtain ⟨cs', hb'⟩ := h.own_ty hj
  have := Blk.ty hb hb'
  revert this
  decide
theorem RT.keep (h : RT w s L) (he : Ext (fun _ => False) w w1) : RT w1 s L := ⟨h.1.keep he fun _ _ e => e, fun p hp => (h.2 p hp).still he⟩
theorem RT.get (h : RT w s L) {i : Nat} {p : Nat × Tr} (hi : L[i]? = some p) : ∃ g, s.p = some ⟨g, 0, none⟩ ∧ w.cell? ⟨g, i, none⟩ = some (ptr p.1) ∧ CT w p.1 p.2 := by
  obtain ⟨g, hg, hc⟩ := h.1.cell (j := i) (v := ptr p.1) (by unfold pl; rw [List.getElem?_map, hi]; rfl)
  exact ⟨g, hg, hc, h.2 p (List.mem_of_getElem? hi)⟩
theorem RT.snoc {ty : TypeId} {b gb : Nat} {t : Tr} (h : RT w s L) (hb : Blk w gb #[ptr b] 112) (ht : CT w b t) (hL : L.length ≤ 100000) :
    ∃ s' w', RunV Tryd.prog (Builtin.append_ #[111, 111] ty #[Slc.v s, Slc.v ⟨some ⟨gb, 0, none⟩, 1, 1⟩]) w (Slc.v s') w' ∧ RT w' s' (L ++ [(b, t)]) ∧ Ext s.own w w' ∧ ∀ j, s'.own j → s.own j ∨ w.heap.size ≤ j := by
  have hl := h.len
  obtain ⟨s', w', r1, r2, r3, r4, r5⟩ := elP.app1 (ty := ty) (ys := [ptr b]) h.1 hb rfl (by intro v hv; rw [List.mem_singleton.1 hv]; rfl) (by omega) (by omega)
  refine ⟨s', w', r1, ⟨by rw [pl_app]; exact r2, fun p hp => ?_⟩, r4, r5⟩
  rcases List.mem_append.1 hp with hp | hp
  · exact (h.2 p hp).keep r4 (own_coin h)
  · rw [List.mem_singleton.1 hp]
    exact CT.keep r4 (own_coin h) ht
theorem RT.app {ty : TypeId} (h : RT w s L) (k : RT w s2 M) (hL : L.length + M.length ≤ 100000) :
    ∃ s' w', RunV Tryd.prog (Builtin.append_ #[111, 111] ty #[Slc.v s, Slc.v s2]) w (Slc.v s') w' ∧ RT w' s' (L ++ M) ∧ Ext s.own w w' ∧ ∀ j, s'.own j → s.own j ∨ w.heap.size ≤ j := by
  have hl := h.len
  have hk := k.len
  obtain ⟨s', w', r1, r2, r3, r4, r5⟩ := elP.app (ty := ty) h.1 k.1.view (pl_one _) (by omega) (by omega)
  refine ⟨s', w', r1, ⟨by rw [pl_app]; exact r2, fun p hp => ?_⟩, r4, r5⟩
  rcases List.mem_append.1 hp with hp | hp
  · exact (h.2 p hp).keep r4 (own_coin h)
  · exact (k.2 p hp).keep r4 (own_coin h)
theorem RT.new_own (h : RT w1 s L) : ∀ j, s.own j → j < w1.heap.size := fun j hj => h.1.own_lt hj
attribute [local irreducible] Ld St Nw Nn Lt LdS
theorem c_grow (w : World) {n : Nat} (hn : n ≤ 200000) : C100 ⟨none, 0, 0⟩ (n : Int) w (fun r w1 => RT w1 r [] ∧ Ext (fun _ => False) w w1 ∧ ∀ j, r.own j → w.heap.size ≤ j) fun _ _ => False := by
  refine T100 _ _ _ _ _ ?_
  unfold S100
  refine Br.dec (fun q => by omega) fun q => Lt.of ?_
  have e : IntKind.i64.wrap ((n : Int) - IntKind.i64.wrap (((0 : Nat) : Int) - ((0 : Nat) : Int))) = (n : Int) := by
    rw [i64_id (n := ((0 : Nat) : Int) - ((0 : Nat) : Int)) (by omega), i64_id (by omega)]
    omega
  show Br (decide (IntKind.i64.wrap ((n : Int) - IntKind.i64.wrap (((0 : Nat) : Int) - ((0 : Nat) : Int))) > 0)) _ _
  rw [e]
  refine Br.dec (fun q1 => ⟨by omega, by omega, ?_⟩) fun q1 => ⟨RT.nil _, Ext.refl _ _, fun j hj => by obtain ⟨a, ha, _⟩ := hj; cases ha⟩
  obtain ⟨s', w', r1, r2, r3, r4⟩ := elP.grow (w := w) (ti := 3) (ty := 111) (by kernel_rfl) (n := n) (by omega) (by decide) (by omega) (by omega)
  refine ⟨s', w', r1, by simp only [Slc.cap]; omega, by show ((0 : Nat) : Int) ≤ _; omega, ⟨r2, fun p hp => by cases hp⟩, r3, fun j hj => ?_⟩
  obtain ⟨a, ha, rfl⟩ := hj
  refine r4 _ ?_
  have ha : (if s'.cap = 0 then s'.p else s'.p.map (·.add (0 * 1))) = some a := ha
  split at ha
  · exact ⟨a, ha, rfl⟩
  · obtain ⟨x, hx, rfl⟩ := Option.map_eq_some_iff.1 ha
    exact ⟨x, hx, (add_block x _).symm⟩
theorem c_concat (h : RT w s L) (k : RT w s2 M) (hL : L.length + M.length ≤ 100000) {g : Nat} (hg : Blk w g #[Slc.v s, Slc.v s2] 111) :
    C90 ⟨some ⟨g, 0, none⟩, 2, 2⟩ w (fun r w1 => RT w1 r (L ++ M) ∧ Ext (fun _ => False) w w1 ∧ ∀ j, r.own j → w.heap.size ≤ j) fun _ _ => False := by
  refine T90 _ _ _ _ ?_
  unfold S90
  have hl := h.len
  have hk := k.len
  have c0 : w.cell? ⟨g, 0, none⟩ = some (Slc.v s) := by rw [hg.cell]; rfl
  have c1 : w.cell? ⟨g, 1, none⟩ = some (Slc.v s2) := by rw [hg.cell]; rfl
  refine ⟨fun n st w1 => w1 = w ∧ ((n = 2 ∧ st = ((0 : Int), (0 : Int))) ∨ (n = 1 ∧ st = (((L.length : Nat) : Int), (1 : Int))) ∨ (n = 0 ∧ st = (((L.length + M.length : Nat) : Int), (2 : Int)))), 2, ⟨rfl, .inl ⟨rfl, rfl⟩⟩, ?_⟩
  rintro n st w1 ⟨rfl, hst⟩
  unfold S90L2
  rcases hst with ⟨rfl, rfl⟩ | ⟨rfl, rfl⟩ | ⟨rfl, rfl⟩
  · refine Srt.Br.t rfl ⟨by simp, by simp, Nn.of (Ld.mk c0 (Br.dec (fun q => ?_) fun q => ⟨1, by decide, rfl, .inr (.inl ⟨rfl, ?_⟩)⟩))⟩
    · dsimp only at q
      rw [i64_id (by omega)] at q
      omega
    · dsimp only
      rw [i64_id (by omega)]
      exact pair_eq (by omega) rfl
  · refine Srt.Br.t rfl ⟨by simp, by simp, Nn.of (Ld.mk c1 (Br.dec (fun q => ?_) fun q => ⟨0, by decide, rfl, .inr (.inr ⟨rfl, ?_⟩)⟩))⟩
    · dsimp only at q
      rw [i64_id (by omega)] at q
      omega
    · dsimp only
      rw [i64_id (by omega)]
      exact pair_eq (by omega) rfl
  · refine Srt.Br.f rfl ?_
    dsimp only
    refine (c_grow w1 (by omega)).mono ?_ (fun _ _ h => h)
    rintro r w2 ⟨hr, e2, o2⟩
    have h2 := h.keep e2
    have k2 := k.keep e2
    have c0 : w2.cell? ⟨g, 0, none⟩ = some (Slc.v s) := e2.cell_same c0
    have c1 : w2.cell? ⟨g, 1, none⟩ = some (Slc.v s2) := e2.cell_same c1
    have hg1 : g < w1.heap.size := hg.lt
    have other : ∀ {w3 w4 : World} {r : Slc} (hw : w1.heap.size ≤ w3.heap.size), (∀ j, r.own j → w1.heap.size ≤ j) → Ext r.own w3 w4 → Ext (fun _ => False) w1 w3 → Ext (fun _ => False) w1 w4 := fun {w3 w4 r} hw ho he he2 => he2.trans he (fun _ h => h) fun i hi hh => absurd hi (by have := ho i hh; omega)
    refine ⟨fun n st w3 => Ext (fun _ => False) w1 w3 ∧ (∀ j, st.1.own j → w1.heap.size ≤ j) ∧ ((n = 2 ∧ st.2 = (0 : Int) ∧ RT w3 st.1 []) ∨ (n = 1 ∧ st.2 = (1 : Int) ∧ RT w3 st.1 L) ∨ (n = 0 ∧ st.2 = (2 : Int) ∧ RT w3 st.1 (L ++ M))), 2, ⟨e2, o2, .inl ⟨rfl, rfl, hr⟩⟩, ?_⟩
    rintro n ⟨r, i⟩ w3 ⟨e3, o3, hst⟩
    unfold S90L1
    dsimp only at *
    have h3 := h.keep e3
    have k3 := k.keep e3
    have c0 : w3.cell? ⟨g, 0, none⟩ = some (Slc.v s) := e3.cell_same (by rw [hg.cell]; rfl)
    have c1 : w3.cell? ⟨g, 1, none⟩ = some (Slc.v s2) := e3.cell_same (by rw [hg.cell]; rfl)
    rcases hst with ⟨rfl, rfl, hr⟩ | ⟨rfl, rfl, hr⟩ | ⟨rfl, rfl, hr⟩
    · obtain ⟨s', w4, r1, r2, r3, r4⟩ := hr.app (ty := 111) h3 (by simp; omega)
      refine Srt.Br.t rfl ⟨by simp, by simp, Nn.of (Ld.mk c0 ⟨s', w4, r1, 1, by decide, other e3.size o3 r3 e3, fun j hj => ?_, .inr (.inl ⟨rfl, rfl, r2⟩)⟩)⟩
      have := e3.size
      rcases r4 j hj with hh | hh
      · exact o3 j hh
      · omega
    · obtain ⟨s', w4, r1, r2, r3, r4⟩ := hr.app (ty := 111) k3 (by omega)
      refine Srt.Br.t rfl ⟨by simp, by simp, Nn.of (Ld.mk c1 ⟨s', w4, r1, 0, by decide, other e3.size o3 r3 e3, fun j hj => ?_, .inr (.inr ⟨rfl, rfl, r2⟩)⟩)⟩
      have := e3.size
      rcases r4 j hj with hh | hh
      · exact o3 j hh
      · omega
    · exact Srt.Br.f rfl ⟨hr, e3, o3⟩
/-! ### Tags -/
def tag : Nat → List (Nat × Tr) → List E
  | _, [] => []
  | n, p :: r => (p.1, n) :: tag (n + 1) r
theorem tag_ptrs : ∀ (n : Nat) (L : List (Nat × Tr)), ptrs (tag n L) = pl L
  | _, [] => rfl
  | n, p :: r => by
    have := tag_ptrs (n + 1) r
    unfold ptrs pl at *
    simp [tag, this]
theorem tag_ge : ∀ (n : Nat) (L : List (Nat × Tr)), ∀ e ∈ tag n L, n ≤ e.2 ∧ e.2 < n + L.length ∧ ∃ p, L[e.2 - n]? = some p ∧ p.1 = e.1
  | _, [], e, h => by cases h
  | n, p :: r, e, h => by
    rcases List.mem_cons.1 h with rfl | h
    · exact ⟨Nat.le_refl _, by simp, p, by simp, rfl⟩
    · obtain ⟨h1, h2, q, h3, h4⟩ := tag_ge (n + 1) r e h
      refine ⟨by omega, by simp; omega, q, ?_, h4⟩
      rw [show e.2 - n = (e.2 - (n + 1)) + 1 by omega]
      simpa using h3
theorem tag_up : ∀ (n : Nat) (L : List (Nat × Tr)), (tag n L).Pairwise fun x y => x.2 < y.2
  | _, [] => List.Pairwise.nil
  | n, p :: r => List.pairwise_cons.2 ⟨fun e he => by have := (tag_ge _ _ e he).1; show n < e.2; omega, tag_up (n + 1) r⟩
theorem tag_app : ∀ (n : Nat) (L M : List (Nat × Tr)), tag n (L ++ M) = tag n L ++ tag (n + L.length) M
  | n, [], M => by simp [tag]
  | n, p :: r, M => by
    have := tag_app (n + 1) r M
    simp only [List.cons_append, tag, this, List.length_cons]
    rw [show n + 1 + r.length = n + (r.length + 1) by omega]
theorem tag_len : ∀ (n : Nat) (L : List (Nat × Tr)), (tag n L).length = L.length
  | _, [] => rfl
  | n, p :: r => by simp [tag, tag_len (n + 1) r]
/-- What a tag stands for. -/
def un (L : List (Nat × Tr)) (e : E) : Nat × Tr := L.getD e.2 default
theorem un_tag (K : List (Nat × Tr)) : ∀ (n : Nat) (L : List (Nat × Tr)), (∀ i p, L[i]? = some p → K[n + i]? = some p) → (tag n L).map (un K) = L
  | _, [], _ => rfl
  | n, p :: r, h => by
    have h0 := h 0 p rfl
    have ih := un_tag K (n + 1) r fun i q hq => by
      have := h (i + 1) q (by simpa using hq)
      rw [show n + 1 + i = n + (i + 1) by omega]
      exact this
    simp only [tag, List.map_cons, ih]
    congr 1
    unfold un
    rw [List.getD_eq_getElem?_getD]
    rw [Nat.add_zero] at h0
    simp only [h0, Option.getD_some]
def wOf (w : World) (b : Nat) : Int := match w.cell? ⟨b, 0, none⟩ with
  | some (.int .i64 x) => x
  | _ => 0
theorem wOf_ct {b : Nat} {t : Tr} (h : CT w b t) : wOf w b = t.w := by
  unfold wOf
  rw [h.wt]
def leE (W : Nat → Int) (a b : E) : Bool := decide (W a.1 ≤ W b.1)
theorem so_merge {W : Nat → Int} : ∀ (N : Nat) (A B : List E), A.length + B.length ≤ N → So W A → So W B → Tg A B → So W (List.merge A B (leE W))
  | _, [], B, _, _, hB, _ => by simpa [List.merge] using hB
  | _, a :: A, [], _, hA, _, _ => by simpa [List.merge] using hA
  | 0, a :: A, b :: B, h, _, _, _ => by simp at h
  | N + 1, a :: A, b :: B, h, hA, hB, hT => by
    simp only [List.length_cons] at h
    obtain ⟨a1, a2⟩ := List.pairwise_cons.1 hA
    obtain ⟨b1, b2⟩ := List.pairwise_cons.1 hB
    by_cases hab : W a.1 ≤ W b.1
    · rw [List.cons_merge_cons_pos _ _ _ (by simpa [leE] using hab)]
      have hlt : lt W a b := lt_of hab (hT a (by simp) b (by simp))
      refine List.pairwise_cons.2 ⟨fun y hy => ?_, so_merge N A (b :: B) (by simp only [List.length_cons]; omega) a2 hB (hT.sub (fun x hx => List.mem_cons_of_mem _ hx) fun x hx => hx)⟩
      rcases List.mem_merge.1 hy with hy | hy
      · exact a1 y hy
      · rcases List.mem_cons.1 hy with rfl | hy
        · exact hlt
        · exact lt_trans hlt (b1 y hy)
    · rw [List.cons_merge_cons_neg _ _ _ (by simpa [leE] using hab)]
      have hlt : lt W b a := .inl (by omega)
      refine List.pairwise_cons.2 ⟨fun y hy => ?_, so_merge N (a :: A) B (by simp only [List.length_cons]; omega) hA b2 (hT.sub (fun x hx => hx) fun x hx => List.mem_cons_of_mem _ hx)⟩
      rcases List.mem_merge.1 hy with hy | hy
      · rcases List.mem_cons.1 hy with rfl | hy
        · exact hlt
        · exact lt_trans hlt (a1 y hy)
      · exact b1 y hy
theorem so_tag {W : Nat → Int} : ∀ (n : Nat) (L : List (Nat × Tr)), (∀ p ∈ L, W p.1 = p.2.w) → Up (L.map (·.2)) → So W (tag n L)
  | _, [], _, _ => List.Pairwise.nil
  | n, p :: r, hW, hU => by
    obtain ⟨h1, h2⟩ := List.pairwise_cons.1 hU
    refine List.pairwise_cons.2 ⟨fun e he => ?_, so_tag (n + 1) r (fun q hq => hW q (by simp [hq])) h2⟩
    obtain ⟨g1, g2, q, g3, g4⟩ := tag_ge _ _ e he
    have hq : q ∈ r := List.mem_of_getElem? g3
    refine lt_of ?_ (by show n < e.2; omega)
    have := h1 q.2 (List.mem_map_of_mem hq)
    show W p.1 ≤ W e.1
    rw [← g4, hW q (by simp [hq]), hW p (by simp)]
    exact this
end
end Srt
end Go.Proofs.YtjkoafjnmkchdaaDoor

/- Package-merge as the program does it: merged, pairs, each. Conditions: sizes. -/
namespace Go.Proofs.YtjkoafjnmkchdaaDoor
namespace Srt
open Sh Pm
set_option linter.unusedVariables false
set_option linter.unusedSimpArgs false
set_option maxRecDepth 4000
set_option maxHeartbeats 4000000
attribute [local irreducible] Ld St Nw Nn Lt LdS
def trs (L : List (Nat × Tr)) : List Tr := L.map (·.2)
theorem trs_len (L : List (Nat × Tr)) : (trs L).length = L.length := by unfold trs; simp
theorem trs_app (L M : List (Nat × Tr)) : trs (L ++ M) = trs L ++ trs M := by unfold trs; simp
theorem trs_get {L : List (Nat × Tr)} {i : Nat} {p : Nat × Tr} (h : L[i]? = some p) : (trs L)[i]? = some p.2 := by
  unfold trs
  rw [List.getElem?_map, h]
  rfl
section
variable {w w1 : World} {s s2 : Slc} {L M : List (Nat × Tr)}
def dT : Tr := .leaf 0 0
/-- The stable order of a list: there is one alone. -/
def Stb (A S : List Tr) : Prop := ∃ js : List Nat, js.Perm (List.range A.length) ∧ js.Pairwise (fun i j => (A.getD i dT).w < (A.getD j dT).w ∨ ((A.getD i dT).w = (A.getD j dT).w ∧ i < j)) ∧ S = js.map fun i => A.getD i dT
theorem Stb.one {A S S' : List Tr} (h : Stb A S) (k : Stb A S') : S = S' := by
  obtain ⟨a, a1, a2, rfl⟩ := h
  obtain ⟨b, b1, b2, rfl⟩ := k
  have : a = b := (a1.trans b1.symm).eq_of_pairwise (le := fun i j => (A.getD i dT).w < (A.getD j dT).w ∨ ((A.getD i dT).w = (A.getD j dT).w ∧ i < j)) (fun i j _ _ h k => by omega) a2 b2
  rw [this]
theorem tag_snd : ∀ (n : Nat) (L : List (Nat × Tr)), (tag n L).map (·.2) = List.range' n L.length
  | n, [] => rfl
  | n, p :: L => by
    show n :: (tag (n + 1) L).map (·.2) = _
    rw [tag_snd, List.length_cons, List.range'_succ]
/-- A row is sorted, whatever sorts it; two sorted rows are merged. -/
def Mg (L M R : List (Nat × Tr)) : Prop := R.Perm (L ++ M) ∧ Up (trs R) ∧ (Up (trs L) → Up (trs M) → trs R = mg (trs L) (trs M)) ∧ Stb (trs (L ++ M)) (trs R)
theorem sorted_mg {W : Nat → Int} {T' : List E} (hW : ∀ p ∈ L ++ M, W p.1 = p.2.w) (hp : T'.Perm (tag 0 (L ++ M))) (hs : So W T') : Mg L M (T'.map (un (L ++ M))) ∧ pl (T'.map (un (L ++ M))) = ptrs T' := by
  have hun : ∀ e ∈ T', ∃ p ∈ L ++ M, un (L ++ M) e = p ∧ p.1 = e.1 := fun e he => by
    obtain ⟨g1, g2, p, g3, g4⟩ := tag_ge _ _ e (hp.mem_iff.1 he)
    rw [Nat.sub_zero] at g3
    refine ⟨p, List.mem_of_getElem? g3, ?_, g4⟩
    unfold un
    rw [List.getD_eq_getElem?_getD, g3]
    rfl
  have hid : (tag 0 (L ++ M)).map (un (L ++ M)) = L ++ M := un_tag (L ++ M) 0 (L ++ M) fun i p h => by rw [Nat.zero_add]; exact h
  refine ⟨⟨?_, ?_, fun uL uM => ?_, ?_⟩, ?_⟩
  · have := hp.map (un (L ++ M))
    rwa [hid] at this
  · unfold trs
    rw [List.map_map]
    refine List.pairwise_map.2 ?_
    refine List.Pairwise.imp_of_mem ?_ hs
    intro a b ha hb hab
    obtain ⟨p, hp1, hp2, hp3⟩ := hun a ha
    obtain ⟨q, hq1, hq2, hq3⟩ := hun b hb
    have := le_of_lt hab
    simp only [Function.comp, hp2, hq2]
    rw [← hW p hp1, ← hW q hq1, hp3, hq3]
    exact this
  · have sL : So W (tag 0 L) := so_tag 0 L (fun p hp => hW p (List.mem_append_left _ hp)) uL
    have sM : So W (tag L.length M) := so_tag _ M (fun p hp => hW p (List.mem_append_right _ hp)) uM
    have tT : Tg (tag 0 L) (tag L.length M) := fun a ha b hb => by
      have := (tag_ge _ _ a ha).2.1
      have := (tag_ge _ _ b hb).1
      omega
    have e0 : tag 0 (L ++ M) = tag 0 L ++ tag L.length M := by rw [tag_app, Nat.zero_add]
    have e1 : T' = List.merge (tag 0 L) (tag L.length M) (leE W) := so_unique hs (so_merge _ _ _ (Nat.le_refl _) sL sM tT) (by rw [e0] at hp; exact hp.trans (List.merge_perm_append _).symm)
    have iL : (tag 0 L).map (un (L ++ M)) = L := un_tag _ 0 L fun i p h => by
      rw [Nat.zero_add, List.getElem?_append_left (List.getElem?_eq_some_iff.1 h).1]
      exact h
    have iM : (tag L.length M).map (un (L ++ M)) = M := un_tag _ _ M fun i p h => by
      rw [List.getElem?_append_right (by omega), Nat.add_sub_cancel_left]
      exact h
    have eL : (tag 0 L).map (fun e => (un (L ++ M) e).2) = trs L := by
      unfold trs
      conv => rhs; rw [← iL]
      rw [List.map_map]
      rfl
    have eM : (tag L.length M).map (fun e => (un (L ++ M) e).2) = trs M := by
      unfold trs
      conv => rhs; rw [← iM]
      rw [List.map_map]
      rfl
    unfold trs
    rw [List.map_map, e1]
    show List.map (fun e => (un (L ++ M) e).2) _ = _
    rw [List.map_merge (s := le) (f := fun e => (un (L ++ M) e).2), eL, eM]
    · rfl
    · intro a ha b hb
      have ha' : a ∈ T' := by rw [e1]; exact List.mem_merge.2 (.inl ha)
      have hb' : b ∈ T' := by rw [e1]; exact List.mem_merge.2 (.inr hb)
      obtain ⟨p, hp1, hp2, hp3⟩ := hun a ha'
      obtain ⟨q, hq1, hq2, hq3⟩ := hun b hb'
      unfold leE le
      rw [hp2, hq2, ← hW p hp1, ← hW q hq1, hp3, hq3]
  · have key : ∀ e ∈ T', (trs (L ++ M)).getD e.2 dT = (un (L ++ M) e).2 ∧ (un (L ++ M) e).2.w = W e.1 := fun e he => by
      obtain ⟨g1, g2, p, g3, g4⟩ := tag_ge _ _ e (hp.mem_iff.1 he)
      rw [Nat.sub_zero] at g3
      have hu : un (L ++ M) e = p := by
        unfold un
        rw [List.getD_eq_getElem?_getD, g3]
        rfl
      refine ⟨?_, ?_⟩
      · rw [List.getD_eq_getElem?_getD, trs_get g3, hu]
        rfl
      · rw [hu, ← hW p (List.mem_of_getElem? g3), g4]
    refine ⟨T'.map (·.2), ?_, ?_, ?_⟩
    · have := hp.map (·.2)
      rw [tag_snd, ← List.range_eq_range'] at this
      rw [trs_len]
      exact this
    · refine List.pairwise_map.2 ?_
      refine List.Pairwise.imp_of_mem ?_ hs
      intro a b ha hb hab
      obtain ⟨a1, a2⟩ := key a ha
      obtain ⟨b1, b2⟩ := key b hb
      rw [a1, b1, a2, b2]
      exact hab
    · unfold trs
      rw [List.map_map, List.map_map]
      refine List.map_congr_left fun e he => ?_
      have := (key e he).1
      unfold trs at this
      simp only [Function.comp]
      exact this.symm
  · unfold pl ptrs
    rw [List.map_map]
    refine List.map_congr_left fun e he => ?_
    obtain ⟨p, hp1, hp2, hp3⟩ := hun e he
    simp only [Function.comp, hp2, hp3]
theorem c_merged (h : RT w s L) (k : RT w s2 M) (hL : L.length + M.length ≤ 100000) : C64 s s2 w (fun r w1 => Ext (fun _ => False) w w1 ∧ (∀ j, r.own j → w.heap.size ≤ j) ∧ ∃ R, RT w1 r R ∧ Mg L M R) fun _ _ => False := by
  refine T64 _ _ _ _ _ ?_
  unfold S64
  refine C82.mono (T82_F83 s s2 w (fun r w1 => Ext (fun _ => False) w w1 ∧ (∀ j, r.own j → w.heap.size ≤ j) ∧ ∃ R, RT w1 r R ∧ Mg L M R) (fun _ _ => False) ?_) (fun _ _ h => h) fun _ _ h => h
  unfold S82_F83
  refine (Hn.start w).nw fun w2 H => ?_
  refine H.nw fun w3 H => ?_
  have hc := H.get 0 rfl
  have hg := H.get 1 rfl
  have e3 := H.ext
  refine (c_concat (h.keep e3) (k.keep e3) hL hg).mono ?_ (fun _ _ h => h)
  rintro r w4 ⟨hr, e4, o4⟩
  have hc4 : w4.cell? ⟨w.heap.size, 0, none⟩ = some wfn := by
    have : w3.cell? ⟨w.heap.size, 0, none⟩ = some wfn := by rw [hc.cell]; rfl
    exact e4.cell_same this
  have hlt : w.heap.size < w3.heap.size := H.lt 0 rfl
  have hlen := hr.len
  rw [List.length_append] at hlen
  have hW : ∀ p ∈ L ++ M, wOf w4 p.1 = p.2.w := fun p hp => wOf_ct (hr.2 p hp)
  have HS : SS w4 r (tag 0 (L ++ M)) ⟨w.heap.size, 0, none⟩ (wOf w4) := by
    refine ⟨?_, hc4, fun e he => ?_, fun e he hj => ?_, fun hj => ?_, by rw [tag_len, List.length_append]; omega⟩
    · unfold PR
      rw [tag_ptrs]
      exact hr.1
    · obtain ⟨_, _, p, g3, g4⟩ := tag_ge _ _ e he
      have hp := List.mem_of_getElem? g3
      rw [← g4, hW p hp]
      exact (hr.2 p hp).wt
    · obtain ⟨_, _, p, g3, g4⟩ := tag_ge _ _ e he
      obtain ⟨cs, hb, _⟩ := (hr.2 p (List.mem_of_getElem? g3)).blk
      rw [g4] at hb
      exact own_coin hr _ hj _ hb
    · have := o4 _ hj
      simp only at this
      omega
  refine (c_sort HS (tag_up _ _)).mono ?_
  rintro w5 ⟨e5, T', hp, hs, H5⟩
  obtain ⟨hm, hpl⟩ := sorted_mg hW hp hs
  have E4 := e3.tr e4
  refine ⟨E4.trans e5 (fun _ h => h) fun i hi hh => absurd hi (by have := o4 i hh; omega), fun j hj => by have := o4 j hj; omega, _, ⟨by rw [hpl]; exact H5.row, fun p hp' => ?_⟩, hm⟩
  exact (hr.2 p (hm.1.mem_iff.1 hp')).keep e5 (own_coin hr)
theorem prs_snoc {l : List Tr} {k : Nat} {x y : Tr} (hx : l[2 * k]? = some x) (hy : l[2 * k + 1]? = some y) : prs (l.take (2 * (k + 1))) = prs (l.take (2 * k)) ++ [.node x y] := by
  have ly := (List.getElem?_eq_some_iff.1 hy).1
  have hlt : k < (prs l).length := by rw [prs_len]; omega
  obtain ⟨x', y', h1, h2, h3⟩ := prs_get k l _ (List.getElem?_eq_getElem hlt)
  rw [hx] at h1
  rw [hy] at h2
  cases h1
  cases h2
  rw [prs_take, prs_take, List.take_add_one, List.getElem?_eq_getElem hlt, h3]
  rfl
theorem c_pairs (h : RT w s L) (hL : L.length ≤ 100000) (hw : ∀ p ∈ L, 0 ≤ p.2.w ∧ p.2.w ≤ 1000000000000000) : C65 s w fun r w1 => Ext (fun _ => False) w w1 ∧ (∀ j, r.own j → w.heap.size ≤ j) ∧ ∃ R, RT w1 r R ∧ trs R = prs (trs L) := by
  refine T65 _ _ _ ?_
  unfold S65
  have hl := h.len
  refine ⟨fun n st w1 => ∃ (k : Nat) (R : List (Nat × Tr)), st.2 = ((2 * k : Nat) : Int) ∧ 2 * k ≤ L.length + 1 ∧ n = L.length + 2 - 2 * k ∧ R.length = k ∧ RT w1 st.1 R ∧ trs R = prs ((trs L).take (2 * k)) ∧ Ext (fun _ => False) w w1 ∧ ∀ j, st.1.own j → w.heap.size ≤ j, L.length + 2, ⟨0, [], rfl, by omega, rfl, rfl, RT.nil _, by simp [trs, prs], Ext.refl _ _, fun j hj => by obtain ⟨a, ha, _⟩ := hj; cases ha⟩, ?_⟩
  rintro n ⟨r, i⟩ w1 ⟨k, R, hi, hk, rfl, hR, h1, h2, e1, o1⟩
  unfold S65L1
  dsimp only at *
  subst hi
  rw [i64_id (n := ((2 * k : Nat) : Int) + 1) (by omega)]
  refine Br.dec (fun q => ?_) fun q => ?_
  · obtain ⟨p1, hp1⟩ : ∃ p, L[2 * k]? = some p := ⟨_, List.getElem?_eq_getElem (by omega)⟩
    obtain ⟨p2, hp2⟩ : ∃ p, L[2 * k + 1]? = some p := ⟨_, List.getElem?_eq_getElem (by omega)⟩
    have hd : Ext (fun _ => False) w w1.drew := e1.drew
    have hd1 := h.keep hd
    obtain ⟨g, hg, c1, t1⟩ := hd1.get hp1
    obtain ⟨g', hg', c2, t2⟩ := hd1.get hp2
    rw [hg] at hg'
    cases hg'
    have b1 := hw _ (List.mem_of_getElem? hp1)
    have b2 := hw _ (List.mem_of_getElem? hp2)
    rw [hg]
    refine ⟨fun w' => w' = w1.drew, rfl, by omega, by omega, Nn.of ?_⟩
    simp only [add_lit, Int.toNat_natCast, Nat.mul_one, Nat.zero_add]
    have e2k : (((2 * k : Nat) : Int) + 1).toNat = 2 * k + 1 := by omega
    refine ldS_mk (x := some ⟨p1.1, 0, none⟩) (fun w' e => e ▸ c1) (Nn.of (ldS_mk (x := p1.2.w) (fun w' e => e ▸ t1.wt) ⟨by omega, by omega, Nn.of ?_⟩))
    simp only [add_lit, e2k, Nat.mul_one, Nat.zero_add]
    refine ldS_mk (x := some ⟨p2.1, 0, none⟩) (fun w' e => e ▸ c2) (Nn.of (ldS_mk (x := p2.2.w) (fun w' e => e ▸ t2.wt) ⟨by omega, by omega, Nn.of ?_⟩))
    simp only [add_lit, Int.toNat_natCast, Nat.mul_one, Nat.zero_add]
    refine ldS_mk (x := some ⟨p1.1, 0, none⟩) (fun w' e => e ▸ c1) ⟨by omega, by omega, Nn.of ?_⟩
    simp only [add_lit, e2k, Nat.mul_one, Nat.zero_add]
    refine ldS_mk (x := some ⟨p2.1, 0, none⟩) (fun w' e => e ▸ c2) ?_
    rw [i64_id (n := p1.2.w + p2.2.w) (by omega)]
    refine (Hn.start w1.drew).nw fun w2 H => ?_
    refine H.nw fun w3 H => ?_
    have hb := H.get 0 rfl
    have hp := H.get 1 rfl
    have e3 := H.ext
    have hnode : CT w3 w1.drew.heap.size (.node p1.2 p2.2) := ⟨p1.1, p2.1, hb, t1.still e3, t2.still e3⟩
    have h13 : RT w3 r R := h1.keep (Ext.tr (Ext.refl _ w1).drew e3)
    obtain ⟨s', w4, r1, r2, r3, r4⟩ := h13.snoc (ty := 111) hp hnode (by omega)
    have E3 : Ext (fun _ => False) w w3 := hd.tr e3
    refine ⟨s', w4, r1, L.length + 2 - 2 * (k + 1), by omega, k + 1, R ++ [(w1.drew.heap.size, .node p1.2 p2.2)], by rw [i64_id (by omega)]; omega, by omega, rfl, by rw [List.length_append, hR]; rfl, r2, ?_, E3.trans r3 (fun _ h => h) fun i hi hh => absurd hi (by have := o1 i hh; omega), fun j hj => ?_⟩
    · rw [trs_app, h2, prs_snoc (trs_get hp1) (trs_get hp2)]
      rfl
    · have := E3.size
      rcases r4 j hj with hh | hh
      · exact o1 j hh
      · omega
  · refine ⟨e1, o1, R, h1, ?_⟩
    rw [h2]
    by_cases e : 2 * k ≤ L.length
    · have hl2 : (trs L).length / 2 = k := by rw [trs_len]; omega
      rw [prs_take, List.take_of_length_le (by rw [prs_len, hl2]; exact Nat.le_refl _)]
    · rw [List.take_of_length_le (by rw [trs_len]; omega)]
/-! ### Counting the signs -/
def lst (f : Nat → Nat) (n : Nat) : List Int := (List.range n).map fun i => (f i : Int)
theorem lst_len (f : Nat → Nat) (n : Nat) : (lst f n).length = n := by unfold lst; simp
theorem lst_get {f : Nat → Nat} {n i : Nat} (h : i < n) : (Inf.ints (lst f n))[i]? = some (.int .i64 (f i : Int)) := by
  unfold Inf.ints lst
  rw [List.getElem?_map, List.getElem?_map, List.getElem?_range h]
  rfl
theorem lst_set {f : Nat → Nat} {n i : Nat} {x : Nat} (h : i < n) : (Inf.ints (lst f n)).set i (.int .i64 (x : Int)) = Inf.ints (lst (fun j => if i = j then x else f j) n) := by
  rw [Inf.ints_set]
  congr 1
  apply List.ext_getElem?
  intro j
  unfold lst
  rw [List.getElem?_set, List.length_map, List.length_range, List.getElem?_map, List.getElem?_map]
  by_cases e : i = j
  · subst e
    rw [if_pos rfl, if_pos h, List.getElem?_range h]
    simp
  · rw [if_neg e]
    by_cases hj : j < n
    · rw [List.getElem?_range hj]
      simp [e]
    · rw [List.getElem?_eq_none (by rw [List.length_range]; omega)]
      rfl
/-- The row that is counted in, and the variable that holds it. -/
structure OB (w : World) (g cO n : Nat) (f : Nat → Nat) : Prop where
  row : Blk w g (Inf.ints (lst f n)).toArray 3
  var : w.cell? ⟨cO, 0, none⟩ = some (Slc.v ⟨some ⟨g, 0, none⟩, n, n⟩)
  ne : cO ≠ g
theorem OB.coin {g cO n : Nat} {f : Nat → Nat} (h : OB w g cO n f) : ∀ j, j = g → ∀ cs, ¬ Blk w j cs 114 := fun j hj cs hb => by
  subst hj
  have := Blk.ty hb h.row
  revert this
  decide
theorem c_tell {g cO n i : Nat} {f : Nat → Nat} (h : OB w g cO n f) (hi : i < n) (hf : f i ≤ 1000000) : C67 (i : Int) ⟨cO, 0, none⟩ w fun w1 => Ext (· = g) w w1 ∧ OB w1 g cO n fun j => f j + if i = j then 1 else 0 := by
  refine T67 _ _ _ _ ?_
  unfold S67
  refine Ld.mk h.var ⟨by omega, by show (i : Int) < ((n : Nat) : Int); omega, Nn.of ?_⟩
  simp only [add_lit, Int.toNat_natCast, Nat.mul_one, Nat.zero_add]
  refine Ld.mk (x := (f i : Int)) (by rw [h.row.cell]; simpa using lst_get hi) ⟨by omega, by omega, Nn.of ?_⟩
  rw [i64_id (by omega), show (f i : Int) + 1 = ((f i + 1 : Nat) : Int) by omega]
  simp only [add_lit, Int.toNat_natCast, Nat.mul_one, Nat.zero_add]
  have e1 : Ext (· = g) w (w.setCell ⟨g, i, none⟩ (.int .i64 ((f i + 1 : Nat) : Int))) := (Ext.refl (· = g) w).set (.inl rfl) _
  unfold St
  refine ⟨h.row.can (by rw [List.size_toArray, Inf.ints_len, lst_len]; exact hi), e1, ?_, ?_, h.ne⟩
  · have := h.row.set i (.int .i64 ((f i + 1 : Nat) : Int))
    rw [List.setIfInBounds_toArray, lst_set hi] at this
    have e : (fun j => if i = j then f i + 1 else f j) = fun j => f j + if i = j then 1 else 0 := by
      funext j
      by_cases e : i = j
      · subst e; simp
      · simp [e]
    rw [e] at this
    exact this
  · rw [e1.cell (cell_lt' h.var) h.ne]
    exact h.var
theorem c_each {g cO n : Nat} : ∀ (t : Tr) {w : World} {b : Nat} {f : Nat → Nat} {c : List Int}, CT w b t → OB w g cO n f → t.ok c → c.length = n → (∀ i, f i + t.cnt i ≤ 1000000) →
    C66 (some ⟨b, 0, none⟩) (.func (.func 67) #[] #[.pointer (some ⟨cO, 0, none⟩)]) w fun w1 => Ext (· = g) w w1 ∧ OB w1 g cO n fun j => f j + t.cnt j
  | .leaf sn x, w, b, f, c, ht, ho, hk, hn, hf => by
    refine T66_F67 _ _ _ _ ?_
    unfold S66_F67
    have ht : Blk w b #[.int .i64 x, .int .i64 (sn : Int), .pointer none, .pointer none] 114 := ht
    refine Nn.of ?_
    simp only [add_lit, Nat.zero_add]
    refine Ld.mk (x := none) (by rw [ht.cell]; rfl) (Srt.Br.t rfl (Nn.of ?_))
    simp only [add_lit, Nat.zero_add]
    refine Ld.mk (x := (sn : Int)) (by rw [ht.cell]; rfl) ?_
    have := hf sn
    exact c_tell ho (by rw [← hn]; exact hk.1) (by omega)
  | .node l r, w, b, f, c, ht, ho, hk, hn, hf => by
    refine T66_F67 _ _ _ _ ?_
    unfold S66_F67
    obtain ⟨b1, b2, hb, hl, hr⟩ := ht
    refine Nn.of ?_
    simp only [add_lit, Nat.zero_add]
    refine Ld.mk (x := some ⟨b1, 0, none⟩) (by rw [hb.cell]; rfl) (Srt.Br.f rfl (Nn.of ?_))
    simp only [add_lit, Nat.zero_add]
    refine Ld.mk (x := some ⟨b1, 0, none⟩) (by rw [hb.cell]; rfl) ?_
    refine (c_each l hl ho hk.1 hn fun i => by have := hf i; simp only [Tr.cnt] at this; omega).mono ?_
    rintro w1 ⟨e1, ho1⟩
    have hb1 : Blk w1 b _ 114 := e1.blk hb fun hh => ho.coin _ hh _ hb
    refine Nn.of ?_
    simp only [add_lit, Nat.zero_add]
    refine Ld.mk (x := some ⟨b2, 0, none⟩) (by rw [hb1.cell]; rfl) ?_
    refine (c_each r (hr.keep e1 ho.coin) ho1 hk.2 hn fun i => by have := hf i; simp only [Tr.cnt] at this; omega).mono ?_
    rintro w2 ⟨e2, ho2⟩
    refine ⟨e1.tr e2, ?_⟩
    have e : (fun j => f j + l.cnt j + r.cnt j) = fun j => f j + (Tr.node l r).cnt j := by
      funext j
      simp only [Tr.cnt]
      omega
    rw [e] at ho2
    exact ho2
end
end Srt
end Go.Proofs.YtjkoafjnmkchdaaDoor

/- Package-merge as the program does it: Lengths. Conditions: sizes. -/
namespace Go.Proofs.YtjkoafjnmkchdaaDoor
namespace Srt
open Sh Pm Inf
set_option linter.unusedVariables false
set_option linter.unusedSimpArgs false
set_option maxRecDepth 4000
set_option maxHeartbeats 4000000
attribute [local irreducible] Ld St Nw Nn Lt LdS
theorem Ext.new {F : Nat → Prop} {a b c : World} (h : Ext (fun _ => False) a b) (k : Ext F b c) (hF : ∀ j, F j → a.heap.size ≤ j) : Ext (fun _ => False) a c :=
  h.trans k (fun _ h => h) fun i hi hh => absurd hi (by have := hF i hh; omega)
section
variable {w w1 : World} {s : Slc} {c : List Int} {most : Int}
theorem why_arg (h : c.length ≤ 288) (hm : 1 ≤ most ∧ most ≤ 15) {i : Nat} (hi : i < c.length) (hc : c.getD i 0 < 0 ∨ 2147483647 < c.getD i 0) : why c most = 1 := by
  unfold why
  rw [if_neg (by omega), if_neg (by omega), if_pos]
  refine List.any_eq_true.2 ⟨c.getD i 0, ?_, by simpa using hc⟩
  rw [List.getD_eq_getElem?_getD, List.getElem?_eq_getElem hi]
  exact List.getElem_mem hi
theorem why_rest (h : c.length ≤ 288) (hm : 1 ≤ most ∧ most ≤ 15) (hc : ∀ i, i < c.length → 0 ≤ c.getD i 0 ∧ c.getD i 0 ≤ 2147483647) : why c most = if 2 ^ most.toNat < (srt c).length then 13 else 0 := by
  unfold why
  rw [if_neg (by omega), if_neg (by omega), if_neg]
  intro ha
  obtain ⟨x, hx, hh⟩ := List.any_eq_true.1 ha
  obtain ⟨i, hi, rfl⟩ := List.mem_iff_getElem.1 hx
  have := hc i hi
  rw [List.getD_eq_getElem?_getD, List.getElem?_eq_getElem hi, Option.getD_some] at this
  simp only [Bool.or_eq_true, decide_eq_true_eq] at hh
  omega
theorem lst_lens (T : List Tr) (n : Nat) : lst (fun i => cs i T) n = lensOf T n := rfl
theorem lst_zero (n : Nat) : lst (fun _ => 0) n = List.replicate n 0 := by
  unfold lst
  rw [List.map_const', List.length_range]
  rfl
theorem OB.still {g cO n : Nat} {f : Nat → Nat} (h : OB w g cO n f) (he : Ext (fun _ => False) w w1) : OB w1 g cO n f := ⟨he.blk h.row id, he.cell_same h.var, h.ne⟩
theorem OB.iv {g cO n : Nat} {f : Nat → Nat} (h : OB w g cO n f) : IV w ⟨some ⟨g, 0, none⟩, n, n⟩ (lst f n) := IV.blk h.row (lst_len f n).symm
/-- The lengths that are given: there is one list alone. -/
def LenOf (c : List Int) (mo : Nat) (l : List Int) : Prop := ((lv c c.length).length < 2 ∧ l = lst (fun i => cs i (lv c c.length)) c.length) ∨ (2 ≤ (lv c c.length).length ∧ ∃ S, Stb (lv c c.length) S ∧ l = lst (fun j => cs j ((rows S (mo - 1)).take (2 * S.length - 2))) c.length)
theorem LenOf.one {c : List Int} {mo : Nat} {l l' : List Int} (h : LenOf c mo l) (k : LenOf c mo l') : l = l' := by
  rcases h with ⟨h1, h2⟩ | ⟨h1, S, h2, h3⟩
  · rcases k with ⟨k1, k2⟩ | ⟨k1, _⟩
    · rw [h2, k2]
    · omega
  · rcases k with ⟨k1, k2⟩ | ⟨k1, S', k2, k3⟩
    · omega
    · rw [h3, k3, h2.one k2]
theorem c_lengthsC (h : IV w s c) : C44 s most w (fun r e w1 => e = why c most ∧ Ext (fun _ => False) w w1 ∧ (why c most ≠ 0 → r.len = 0) ∧ (why c most = 0 → ∃ l, IV w1 r l ∧ LR c most.toNat l ∧ r.len ≤ r.cap ∧ LenOf c most.toNat l)) fun _ _ => False := by
  refine T44 _ _ _ _ _ ?_
  unfold S44
  have h1 := h.1
  refine Br.dec (fun q => ?_) fun q => Br.dec (fun q2 => ?_) fun q2 => Br.dec (fun q3 => ?_) fun q3 => ?_
  · have e : why c most = 6 := by unfold why; rw [if_pos (by omega)]
    exact ⟨e.symm, Ext.refl _ _, fun _ => rfl, fun hh => by rw [e] at hh; cases hh⟩
  · have e : why c most = 1 := by unfold why; rw [if_neg (by omega), if_pos (.inl q2)]
    exact ⟨e.symm, Ext.refl _ _, fun _ => rfl, fun hh => by rw [e] at hh; cases hh⟩
  · have e : why c most = 1 := by unfold why; rw [if_neg (by omega), if_pos (.inr q3)]
    exact ⟨e.symm, Ext.refl _ _, fun _ => rfl, fun hh => by rw [e] at hh; cases hh⟩
  have hm : 1 ≤ most ∧ most ≤ 15 := by omega
  have hlen : c.length ≤ 288 := by omega
  refine ⟨fun n st w1 => ∃ (i : Nat) (L : List (Nat × Tr)), st.2 = (i : Int) ∧ i ≤ c.length ∧ n = c.length - i ∧ (∀ j, j < i → 0 ≤ c.getD j 0 ∧ c.getD j 0 ≤ 2147483647) ∧ RT w1 st.1 L ∧ trs L = lv c i ∧ Ext (fun _ => False) w w1 ∧ ∀ j, st.1.own j → w.heap.size ≤ j, c.length, ⟨0, [], rfl, by omega, rfl, fun j hj => by omega, RT.nil _, rfl, Ext.refl _ _, fun j hj => by obtain ⟨a, ha, _⟩ := hj; cases ha⟩, ?_⟩
  rintro n ⟨r, i⟩ w1 ⟨i, L, rfl, hi, rfl, hc, hr, hL, e1, o1⟩
  unfold S44L3
  dsimp only at *
  rw [h1]
  have hLl : L.length = (lv c i).length := by rw [← hL, trs_len]
  have hLi := lv_len c i
  refine Br.dec (fun q => ⟨by omega, by omega, ?_⟩) fun q => ?_
  · have hlt : i < c.length := by omega
    obtain ⟨a, ha, hcell⟩ := (h.keep e1).get hlt
    rw [ha, Int.toNat_natCast]
    have lvs : lv c (i + 1) = if 0 < c.getD i 0 then lv c i ++ [.leaf i (c.getD i 0)] else lv c i := rfl
    refine Nn.of (Ld.mk hcell (Br.dec (fun q4 => ?_) fun q4 => Br.dec (fun q5 => ?_) fun q5 => ?_))
    · have e := why_arg hlen hm hlt (.inl q4)
      exact ⟨e.symm, e1, fun _ => rfl, fun hh => by rw [e] at hh; cases hh⟩
    · have e := why_arg hlen hm hlt (.inr q5)
      exact ⟨e.symm, e1, fun _ => rfl, fun hh => by rw [e] at hh; cases hh⟩
    have hc' : ∀ j, j < i + 1 → 0 ≤ c.getD j 0 ∧ c.getD j 0 ≤ 2147483647 := fun j hj => by
      by_cases e : j = i
      · subst e; omega
      · exact hc j (by omega)
    refine Br.dec (fun q6 => ?_) fun q6 => ?_
    · rw [if_pos q6] at lvs
      refine (Hn.start w1).nw fun w2 H => ?_
      refine H.nw fun w3 H => ?_
      have hb := H.get 0 rfl
      have hp := H.get 1 rfl
      have e3 := H.ext
      have hleaf : CT w3 w1.heap.size (.leaf i (c.getD i 0)) := hb
      obtain ⟨s', w4, r1, r2, r3, r4⟩ := (hr.keep e3).snoc (ty := 111) hp hleaf (by omega)
      have E3 := e1.tr e3
      refine ⟨s', w4, r1, c.length - (i + 1), by omega, i + 1, _, by rw [i64_id (by omega)]; rfl, by omega, rfl, hc', r2, by rw [trs_app, hL, lvs]; rfl, Ext.new E3 r3 o1, fun j hj => ?_⟩
      have := E3.size
      rcases r4 j hj with hh | hh
      · exact o1 j hh
      · omega
    · rw [if_neg q6] at lvs
      exact ⟨c.length - (i + 1), by omega, i + 1, L, by rw [i64_id (by omega)]; rfl, by omega, rfl, hc', hr, by rw [hL, lvs], e1, o1⟩
  have : i = c.length := by omega
  subst this
  obtain ⟨mo, hmo⟩ : ∃ mo : Nat, most = (mo : Int) := ⟨most.toNat, by omega⟩
  subst hmo
  have hw := why_rest hlen hm hc
  rw [Int.toNat_natCast] at hw
  have hrl := hr.len
  have hS : L.length = (srt c).length := by rw [hLl, lv_srt]
  have h15 : 2 ^ mo ≤ 2 ^ 15 := Nat.pow_le_pow_right (by decide) (by omega)
  rw [sh1 rfl (by omega)]
  refine ⟨by omega, Br.dec (fun q4 => ?_) fun q4 => ?_⟩
  · rw [if_pos (by omega)] at hw
    exact ⟨hw.symm, e1, fun _ => rfl, fun hh => by rw [hw] at hh; cases hh⟩
  rw [if_neg (by omega)] at hw
  obtain ⟨w2, hrun, hw2⟩ := elI.make (zs := [.int .i64 0]) rfl w1 c.length (by omega) (by omega)
  refine ⟨_, w2, hrun, ?_⟩
  have H : Hn w1 w2 [(w1.heap.size, ints (lst (fun _ => 0) c.length), 3)] := by
    rw [lst_zero, ← flat_zero, hw2]
    exact ((Hn.start w1).keep ((Ext.refl _ _).alloc _)).push (Blk.new _ _ _) (Nat.le_refl _) (by simp)
  refine H.nw fun w3 H => ?_
  simp only [List.cons_append, List.nil_append] at H
  refine H.st 1 rfl (by simp) fun w4 H => ?_
  simp only [List.set_cons_zero, List.set_cons_succ] at H
  have e4 := e1.tr H.ext
  have hOB : OB w4 w1.heap.size w2.heap.size c.length fun _ => 0 := ⟨H.get 0 rfl, by rw [(H.get 1 rfl).cell]; rfl, by have := H.h.nodup; have h3 := H.lt 0 rfl; intro e; rw [e] at this; simp [arr] at this⟩
  have hr4 := hr.keep H.ext
  have hg : w.heap.size ≤ w1.heap.size := e1.size
  clear H hrun hw2
  generalize hgg : w1.heap.size = g at *
  refine ⟨fun (_ : Unit) w5 => Ext (fun _ => False) w w5 ∧ RT w5 r L ∧ OB w5 g w2.heap.size c.length fun i => if L.length = 1 then cs i (trs L) else 0, ?_, ?_⟩
  rotate_left
  · refine Br.eq (fun q5 => ?_) fun q5 => ⟨e4, hr4, by rw [show (fun i => if L.length = 1 then cs i (trs L) else 0) = fun _ => 0 from funext fun i => if_neg (by omega)]; exact hOB⟩
    have hd := hr4.keep (Ext.refl _ w4).drew
    obtain ⟨p, hp⟩ : ∃ p, L = [p] := by
      match L, (show L.length = 1 by omega) with
      | [p], _ => exact ⟨p, rfl⟩
    subst hp
    obtain ⟨g0, hg0, hc0, hct⟩ := hd.get (i := 0) rfl
    obtain ⟨sn, hsn, hpe, hpos⟩ := lv_mem.1 (show p.2 ∈ lv c c.length by rw [← hL]; simp [trs])
    have hOBd := hOB.still (Ext.refl _ w4).drew
    rw [hpe] at hct
    have hct : Blk w4.drew p.1 #[.int .i64 (c.getD sn 0), .int .i64 (sn : Int), .pointer none, .pointer none] 114 := hct
    rw [hg0]
    refine Ld.mk hOBd.var ⟨by omega, by omega, Nn.of ?_⟩
    simp only [add_lit, Int.toNat_zero, Nat.zero_mul, Nat.add_zero]
    refine Ld.mk (x := some (⟨p.1, 0, none⟩ : Addr)) hc0 (Nn.of ?_)
    simp only [add_lit, Nat.zero_add]
    refine Ld.mk (x := (sn : Int)) (by rw [hct.cell]; rfl) ⟨by omega, by show (sn : Int) < ((c.length : Nat) : Int); omega, Nn.of ?_⟩
    simp only [add_lit, Int.toNat_natCast, Nat.mul_one, Nat.zero_add]
    have e5 : Ext (· = g) w4.drew (w4.drew.setCell ⟨g, sn, none⟩ (.int .i64 1)) := (Ext.refl (· = g) w4.drew).set (.inl rfl) _
    unfold St
    refine ⟨hOBd.row.can (by rw [List.size_toArray, ints_len, lst_len]; exact hsn), Ext.new (e4.drew) e5 (fun j hj => by subst hj; exact hg), ⟨hd.1.keep e5 fun j hj hh => ?_, fun q hq => (hd.2 q hq).keep e5 hOBd.coin⟩, ?_, ?_, hOB.ne⟩
    · subst hh
      obtain ⟨cs', hb'⟩ := hd.own_ty hj
      have := Blk.ty hb' hOBd.row
      revert this
      decide
    · have := hOBd.row.set sn (.int .i64 ((1 : Nat) : Int))
      rw [List.setIfInBounds_toArray, lst_set hsn] at this
      have e : (fun j => if sn = j then 1 else 0) = fun i => if [p].length = 1 then cs i (trs [p]) else 0 := by
        funext j
        simp [trs, cs, hpe, Tr.cnt]
      rw [e] at this
      exact this
    · rw [e5.cell (cell_lt' hOBd.var) hOB.ne]
      exact hOBd.var
  clear hOB hr4 e4
  rintro _ w5 ⟨e5, hr5, hO5⟩
  unfold S44J1
  dsimp only
  refine Br.dec (fun q5 => Ld.mk hO5.var ⟨hw.symm, e5, fun hh => absurd hw hh, fun _ => ⟨_, hO5.iv, ?_, Nat.le_refl _, ?_⟩⟩) fun q5 => ?_
  · have hsd : Sd c (trs L) := ⟨by rw [hL], by
      match L, (show L.length < 2 by omega) with
      | [], _ => exact List.Pairwise.nil
      | [p], _ => exact List.pairwise_singleton _ _⟩
    have := LR.none (most := mo) hsd hlen hc (by omega) (by rw [trs_len]; omega)
    rw [← lst_lens] at this
    have e : (fun i => if L.length = 1 then cs i (trs L) else 0) = fun i => cs i (trs L) := by
      funext i
      split
      · rfl
      · have : L = [] := List.eq_nil_of_length_eq_zero (by omega)
        rw [this]
        rfl
    rw [e, Int.toNat_natCast]
    exact this
  · have e : (fun i => if L.length = 1 then cs i (trs L) else 0) = fun i => cs i (trs L) := by
      funext i
      split
      · rfl
      · have : L = [] := List.eq_nil_of_length_eq_zero (by omega)
        rw [this]
        rfl
    rw [e, hL]
    exact .inl ⟨by omega, rfl⟩
  have eO : (fun i => if L.length = 1 then cs i (trs L) else 0) = fun _ => 0 := by
    funext i
    rw [if_neg (by omega)]
  rw [eO] at hO5
  refine (c_merged hr5 (RT.nil w5) (by simp; omega)).mono ?_ (fun _ _ h => h)
  rintro r6 w6 ⟨e6, o6, R, hr6, hmg⟩
  have hsd : Sd c (trs R) := ⟨by
    have := hmg.1.map (·.2)
    rw [List.append_nil] at this
    rw [← hL]
    exact this, hmg.2.1⟩
  have hRl : R.length = L.length := by
    have := hmg.1.length_eq
    rw [List.append_nil] at this
    exact this
  have hr6l := hr6.len
  have E6 := e5.tr e6
  have O6 := hO5.still e6
  have hstb := hmg.2.2.2
  rw [List.append_nil, hL] at hstb
  generalize hSS : trs R = S at hsd hstb
  have hSl : S.length = L.length := by rw [← hSS, trs_len, hRl]
  have hupS : Up S := hsd.up
  refine ⟨fun n st w7 => ∃ (k : Nat) (K : List (Nat × Tr)), st.2 = (k : Int) ∧ k + 1 ≤ mo ∧ n = mo - 1 - k ∧ RT w7 st.1 K ∧ trs K = rows S k ∧ RT w7 r6 R ∧ OB w7 g w2.heap.size c.length (fun _ => 0) ∧ Ext (fun _ => False) w w7, mo - 1, ⟨0, R, rfl, by omega, rfl, hr6, hSS, hr6, O6, E6⟩, ?_⟩
  rintro n ⟨r7, k⟩ w7 ⟨k, K, rfl, hk, rfl, hr7, hK, hR7, O7, e7⟩
  unfold S44L2
  dsimp only at *
  rw [i64_id (n := (mo : Int) - 1) (by omega)]
  have hKl : K.length = (rows S k).length := by rw [← hK, trs_len]
  have hKs := rows_short S k
  refine Br.dec (fun q6 => ?_) fun q6 => ?_
  · refine (c_pairs hr7 (by omega) fun p hp => rows_w hsd hlen hc (k := k) (by omega) p.2 (by rw [← hK]; exact List.mem_map_of_mem hp)).mono ?_
    rintro r8 w8 ⟨e8, o8, P, hr8, hP⟩
    have hPl : P.length = (rows S k).length / 2 := by rw [← trs_len, hP, hK, prs_len]
    refine (c_merged (hR7.keep e8) hr8 (by omega)).mono ?_ (fun _ _ h => h)
    rintro r9 w9 ⟨e9, o9, K', hr9, hmg9⟩
    refine ⟨mo - 1 - (k + 1), by omega, k + 1, K', by rw [i64_id (by omega)]; rfl, by omega, rfl, hr9, ?_, (hR7.keep e8).keep e9, (O7.still e8).still e9, e7.tr (e8.tr e9)⟩
    have := hmg9.2.2.1 (by rw [hSS]; exact hupS) (by rw [hP, hK]; exact prs_up _ (rows_up hupS k))
    rw [this, hSS, hP, hK]
    rfl
  · have hk1 : k = mo - 1 := by omega
    obtain ⟨hlong, hLR⟩ := LR.many (most := mo) hsd hlen hc (by omega) (by omega) (by omega) (by omega)
    rw [← hk1] at hlong hLR
    have hr7l := hr7.len
    have hcap := row_cap hr7.1
    have em : IntKind.i64.wrap (IntKind.i64.wrap (2 * ((r6.len : Nat) : Int)) - 2) = ((2 * S.length - 2 : Nat) : Int) := by
      rw [i64_id (n := 2 * ((r6.len : Nat) : Int)) (by omega), i64_id (by omega)]
      omega
    rw [em, Int.toNat_natCast]
    refine ⟨by omega, by omega, Lt.of ?_⟩
    have hcl : (r7.cut 1 0 (2 * S.length - 2) r7.cap).len = 2 * S.length - 2 := rfl
    rw [hcl]
    generalize hM : 2 * S.length - 2 = M at *
    refine ⟨fun n st w8 => ∃ i : Nat, st = (i : Int) ∧ i ≤ M ∧ n = M - i ∧ RT w8 r7 K ∧ OB w8 g w2.heap.size c.length (fun j => cs j ((rows S k).take i)) ∧ Ext (fun _ => False) w w8, M, ⟨0, rfl, by omega, rfl, hr7, by simpa [cs] using O7, e7⟩, ?_⟩
    rintro n st w8 ⟨i, rfl, hiM, rfl, hr8, O8, e8⟩
    unfold S44L1
    dsimp only
    rw [em, Int.toNat_natCast, hcl]
    refine Br.dec (fun q7 => ⟨by omega, by omega, ?_⟩) fun q7 => ?_
    · obtain ⟨p, hp⟩ : ∃ p, K[i]? = some p := ⟨_, List.getElem?_eq_getElem (by omega)⟩
      obtain ⟨g0, hg0, hc0, hct⟩ := hr8.get hp
      have hpp : (r7.cut 1 0 M r7.cap).p = some ⟨g0, 0, none⟩ := by
        show (if r7.cap = 0 then r7.p else r7.p.map (·.add (0 * 1))) = _
        rw [if_neg (by omega), hg0]
        simp
      rw [hpp]
      refine Nn.of ?_
      simp only [add_lit, Int.toNat_natCast, Nat.mul_one, Nat.zero_add]
      refine Ld.mk (x := some (⟨p.1, 0, none⟩ : Addr)) hc0 ?_
      have hrow : (rows S k)[i]? = some p.2 := by rw [← hK]; exact trs_get hp
      have htk : (rows S k).take (i + 1) = (rows S k).take i ++ [p.2] := by rw [List.take_add_one, hrow]; rfl
      have hsum : ∀ j, cs j ((rows S k).take (i + 1)) = cs j ((rows S k).take i) + p.2.cnt j := fun j => by
        rw [htk, cs_app]
        simp [cs]
      refine (c_each p.2 hct O8 (rows_ok hsd k p.2 (List.mem_of_getElem? hrow)) rfl fun j => ?_).mono ?_
      · have := cs_le hsd.lv (k := k) (m := i + 1) (by omega) (by omega) j
        rw [hsum] at this
        omega
      · rintro w9 ⟨e9, O9⟩
        refine ⟨M - (i + 1), by omega, i + 1, by rw [i64_id (by omega)]; rfl, by omega, rfl, ⟨hr8.1.keep e9 fun j hj hh => ?_, fun q hq => (hr8.2 q hq).keep e9 O8.coin⟩, ?_, Ext.new e8 e9 fun j hj => by subst hj; exact hg⟩
        · subst hh
          obtain ⟨cs', hb'⟩ := hr8.own_ty hj
          have := Blk.ty hb' O8.row
          revert this
          decide
        · have e : (fun j => cs j ((rows S k).take i) + p.2.cnt j) = fun j => cs j ((rows S k).take (i + 1)) := by
            funext j
            rw [hsum]
          rw [e] at O9
          exact O9
    · have : i = M := by omega
      subst this
      refine Ld.mk O8.var ⟨hw.symm, e8, fun hh => absurd hw hh, fun _ => ⟨_, O8.iv, ?_, Nat.le_refl _, ?_⟩⟩
      · rw [Int.toNat_natCast]
        exact hLR
      · refine .inr ⟨by omega, S, hstb, ?_⟩
        rw [Int.toNat_natCast, ← hk1, hM]
theorem c_lengths (h : IV w s c) : C44 s most w (fun r e w1 => e = why c most ∧ Ext (fun _ => False) w w1 ∧ (why c most ≠ 0 → r.len = 0) ∧ (why c most = 0 → ∃ l, IV w1 r l ∧ LR c most.toNat l)) fun _ _ => False := by
  refine (c_lengthsC h).mono ?_ fun _ _ h => h
  rintro r e w1 ⟨h1, h2, h3, h4⟩
  refine ⟨h1, h2, h3, fun hw => ?_⟩
  obtain ⟨l, a, b, _⟩ := h4 hw
  exact ⟨l, a, b⟩
end
end Srt
end Go.Proofs.YtjkoafjnmkchdaaDoor

/- Deflate: counting signs, cutting zeros, marks. Conditions: sizes. -/
namespace Go.Proofs.YtjkoafjnmkchdaaDoor
namespace Inf
open Sh Bit
set_option linter.unusedVariables false
set_option linter.unusedSimpArgs false
set_option maxRecDepth 4000
set_option maxHeartbeats 1000000
attribute [local irreducible] Ld St Nw Nn Lt LdS
def inc (c : List Int) (o : Nat) : List Int := c.set o (c.getD o 0 + 1)
theorem inc_len (c : List Int) (o : Nat) : (inc c o).length = c.length := by unfold inc; rw [List.length_set]
theorem inc_get {c : List Int} {o : Nat} (h : o < c.length) (j : Nat) : (inc c o).getD j 0 = if j = o then c.getD o 0 + 1 else c.getD j 0 := by
  unfold inc
  by_cases hj : j = o
  · subst hj
    rw [if_pos rfl, List.getD_eq_getElem?_getD, List.getElem?_set_self h]
    rfl
  · rw [if_neg hj, List.getD_eq_getElem?_getD, List.getElem?_set_ne (fun e => hj e.symm), List.getD_eq_getElem?_getD]
/-- The counts know this part's signs. -/
def Seen (ca cb : List Int) (p : Prt) : Prop := if p.n = 0 then 0 < ca.getD p.b.toNat 0 else 0 < ca.getD (257 + kL p.n) 0 ∧ 0 < cb.getD (kD p.f) 0
theorem Seen.up {ca cb ca' cb' : List Int} {p : Prt} (h : Seen ca cb p) (ha : ∀ j, ca.getD j 0 ≤ ca'.getD j 0) (hb : ∀ j, cb.getD j 0 ≤ cb'.getD j 0) : Seen ca' cb' p := by
  unfold Seen at *
  split at h
  · rename_i h0; rw [if_pos h0]; have := ha p.b.toNat; omega
  · rename_i h0; rw [if_neg h0]; have := ha (257 + kL p.n); have := hb (kD p.f); omega
/-- The counts of the signs. -/
def cnt1 (c : List Int × List Int) (p : Prt) : List Int × List Int := if p.n = 0 then (inc c.1 p.b.toNat, c.2) else (inc c.1 (257 + kL p.n), inc c.2 (kD p.f))
def cntS (l : List Prt) : List Int × List Int := l.foldl cnt1 (inc (List.replicate 286 0) 256, List.replicate 30 0)
theorem cntS_snoc (l : List Prt) (p : Prt) : cntS (l ++ [p]) = cnt1 (cntS l) p := by
  unfold cntS
  rw [List.foldl_append]
  rfl
structure CInv (ca cb : List Int) (l : List Prt) (i : Nat) : Prop where
  it : (ca, cb) = cntS (l.take i)
  la : ca.length = 286
  lb : cb.length = 30
  ba : ∀ j, 0 ≤ ca.getD j 0 ∧ ca.getD j 0 ≤ (i : Int) + 1
  bb : ∀ j, 0 ≤ cb.getD j 0 ∧ cb.getD j 0 ≤ (i : Int)
  e : 0 < ca.getD 256 0
  seen : ∀ p ∈ l.take i, Seen ca cb p
theorem rep_get (n j : Nat) : (List.replicate n (0 : Int)).getD j 0 = 0 := by
  rw [List.getD_eq_getElem?_getD, List.getElem?_replicate]
  split <;> rfl
theorem c_countP {w : World} {s : Slc} {l : List Prt} (hP : PV w s (l.map rawP)) (hl : l.length ≤ 1048576) (hok : ∀ p ∈ l, p.ok) :
    C43 s w fun r2 r3 w1 => ∃ ca cb, IV w1 r2 ca ∧ IV w1 r3 cb ∧ CInv ca cb l l.length ∧ Ext (fun _ => False) w w1 := by
  refine T43 _ _ _ ?_
  unfold S43
  refine ⟨fun st w2 => ∃ g1 g2 : Nat, st = (⟨some ⟨g1, 0, none⟩, 286, 286⟩, ⟨some ⟨g2, 0, none⟩, 30, 30⟩) ∧ Hn w w2 [(g1, ints (List.replicate 286 0), 3), (g2, ints (List.replicate 30 0), 3)], ?_, ?_⟩
  · rintro _ w2 ⟨g1, g2, rfl, H⟩
    unfold S43J1
    dsimp only
    refine ⟨by decide, by decide, Nn.of ?_⟩
    refine H.st 0 rfl (by simp [ints_len]) fun w3 H => ?_
    simp only [List.set_cons_zero, List.set_cons_succ] at H
    have e1 : (ints (List.replicate 286 0)).set (0 + Int.toNat 256 * 1) (Value.int .i64 1) = ints (inc (List.replicate 286 0) 256) := by
      unfold inc
      rw [show (0 + Int.toNat 256 * 1) = 256 by decide, ints_set, rep_get]
      rfl
    rw [e1] at H
    refine ⟨fun m i' w4 => ∃ (i : Nat) (ca cb : List Int), i' = (i : Int) ∧ i ≤ l.length ∧ m = l.length - i ∧ Hn w w4 [(g1, ints ca, 3), (g2, ints cb, 3)] ∧ CInv ca cb l i, l.length, ⟨0, _, _, rfl, Nat.zero_le _, rfl, H, ?_⟩, ?_⟩
    · have hg : ∀ j, (inc (List.replicate 286 0) 256).getD j 0 = if j = 256 then 1 else 0 := fun j => by
        rw [inc_get (by rw [List.length_replicate]; decide), rep_get, rep_get]
        rfl
      exact ⟨rfl, by rw [inc_len, List.length_replicate], List.length_replicate, fun j => by rw [hg]; split <;> omega, fun j => by rw [rep_get]; omega, by rw [hg]; decide, fun p hp => by cases hp⟩
    rintro m i' w4 ⟨i, ca, cb, rfl, hi, rfl, H, hI⟩
    unfold S43L1
    have hlen : s.len = l.length := by rw [hP.1, List.length_map]
    rw [hlen]
    dsimp only
    refine Br.dec (fun q => ?_) fun q => ?_
    · have hil : i < l.length := by omega
      have hio : (l.map rawP)[i]? = some (rawP l[i]) := by rw [List.getElem?_map, List.getElem?_eq_getElem hil]; rfl
      obtain ⟨a, ha, c0, c1, c2⟩ := (hP.keep H.ext).get hio
      have pok := hok l[i] (List.getElem_mem hil)
      have htk : l.take (i + 1) = l.take i ++ [l[i]] := by rw [List.take_add_one, List.getElem?_eq_getElem hil]; rfl
      generalize l[i] = p at *
      obtain ⟨pb, pn, pf⟩ := p
      have hpb := pb.toNat_lt
      have la := hI.la
      have lb := hI.lb
      rw [ha]
      refine ⟨by omega, by omega, Nn.of ?_⟩
      rw [Int.toNat_natCast]
      refine Ld.mk (x := (pb.toNat : Int)) c0 (Ld.mk (x := (pn : Int)) c1 (Ld.mk (x := (pf : Int)) c2 ?_))
      refine H.nw fun w5 H => ?_
      simp only [List.cons_append, List.nil_append] at H
      iterate 3 (refine H.st 2 rfl (by simp) fun _ H => ?_; simp only [List.nil_append, List.cons_append, List.set_cons_zero, List.set_cons_succ, Nat.zero_add] at H)
      iterate 1 refine H.ld 2 rfl rfl ?_
      refine Br.eq (fun h0 => ?_) fun h0 => ?_
      · have hpn : pn = 0 := by omega
        subst hpn
        iterate 1 refine H.ld 2 rfl rfl ?_
        have hba := hI.ba pb.toNat
        refine ⟨by omega, by omega, Nn.of ?_⟩
        simp only [add_lit, Int.toNat_natCast, Nat.mul_one, Nat.zero_add]
        refine H.ld 0 rfl (ints_get (by omega)) ?_
        refine ⟨by omega, by omega, Nn.of ?_⟩
        simp only [add_lit, Int.toNat_natCast, Nat.mul_one, Nat.zero_add]
        rw [i64_id (by omega)]
        refine H.st 0 rfl (by rw [ints_len]; omega) fun w9 H => ?_
        simp only [List.set_cons_zero, List.set_cons_succ] at H
        rw [ints_set] at H
        have H := Hn.left (L := [_, _]) (M := [_]) H
        have hg := fun j => inc_get (c := ca) (o := pb.toNat) (by omega) j
        have up : ∀ j, ca.getD j 0 ≤ (inc ca pb.toNat).getD j 0 := fun j => by rw [hg]; split <;> (try subst_vars) <;> omega
        refine ⟨l.length - (i + 1), by omega, i + 1, inc ca pb.toNat, cb, by rw [i64_id (by omega)]; rfl, by omega, rfl, H, ⟨by rw [htk, cntS_snoc, ← hI.it]; rfl, by rw [inc_len]; exact la, lb, fun j => by have := hI.ba j; rw [hg]; split <;> omega, fun j => by have := hI.bb j; omega, by have := hI.e; have := up 256; omega, fun p hp => ?_⟩⟩
        rw [htk] at hp
        rcases List.mem_append.1 hp with hp | hp
        · exact (hI.seen p hp).up up fun j => Int.le_refl _
        · rw [List.mem_singleton.1 hp]
          unfold Seen
          rw [if_pos rfl, hg, if_pos rfl]
          omega
      · have hpn : ¬ pn = 0 := by omega
        rcases pok with hp | ⟨_, q3, q4, q5, q6⟩
        · exact absurd hp.1 hpn
        dsimp only at q3 q4 q5 q6
        obtain ⟨k1, k2, k3, k4⟩ := kL_spec q3 q4
        obtain ⟨d1, d2, d3⟩ := kD_spec q5 q6
        iterate 1 refine H.ld 2 rfl rfl ?_
        refine (c_Sign (pn : Int) _).mono ?_
        rintro a1 a2 a3 a4 w8 ⟨hs, e8⟩
        unfold sgnF at hs
        rw [if_neg (by omega), Int.toNat_natCast] at hs
        simp only [Prod.mk.injEq] at hs
        obtain ⟨rfl, rfl, rfl, rfl⟩ := hs
        have H := H.keep e8
        iterate 1 refine H.ld 2 rfl rfl ?_
        refine (c_Back (pf : Int) _).mono ?_
        rintro a1 a2 a3 a4 w9 ⟨hs, e9⟩
        unfold bckF at hs
        rw [if_neg (by omega), Int.toNat_natCast] at hs
        simp only [Prod.mk.injEq] at hs
        obtain ⟨rfl, rfl, rfl, rfl⟩ := hs
        have H := H.keep e9
        have hba := hI.ba (257 + kL pn)
        have hbb := hI.bb (kD pf)
        refine ⟨by omega, by omega, Nn.of ?_⟩
        simp only [add_lit, Int.toNat_natCast, Nat.mul_one, Nat.zero_add]
        refine H.ld 0 rfl (ints_get (by omega)) ?_
        refine ⟨by omega, by omega, Nn.of ?_⟩
        simp only [add_lit, Int.toNat_natCast, Nat.mul_one, Nat.zero_add]
        rw [i64_id (n := ca.getD (257 + kL pn) 0 + 1) (by omega)]
        refine H.st 0 rfl (by rw [ints_len]; omega) fun w10 H => ?_
        simp only [List.set_cons_zero, List.set_cons_succ] at H
        rw [ints_set] at H
        refine ⟨by omega, by omega, Nn.of ?_⟩
        simp only [add_lit, Int.toNat_natCast, Nat.mul_one, Nat.zero_add]
        refine H.ld 1 rfl (ints_get (by omega)) ?_
        refine ⟨by omega, by omega, Nn.of ?_⟩
        simp only [add_lit, Int.toNat_natCast, Nat.mul_one, Nat.zero_add]
        rw [i64_id (n := cb.getD (kD pf) 0 + 1) (by omega)]
        refine H.st 1 rfl (by rw [ints_len]; omega) fun w11 H => ?_
        simp only [List.set_cons_zero, List.set_cons_succ] at H
        rw [ints_set] at H
        have H := Hn.left (L := [_, _]) (M := [_]) H
        have hg := fun j => inc_get (c := ca) (o := 257 + kL pn) (by omega) j
        have hgb := fun j => inc_get (c := cb) (o := kD pf) (by omega) j
        have up : ∀ j, ca.getD j 0 ≤ (inc ca (257 + kL pn)).getD j 0 := fun j => by rw [hg]; split <;> (try subst_vars) <;> omega
        have upb : ∀ j, cb.getD j 0 ≤ (inc cb (kD pf)).getD j 0 := fun j => by rw [hgb]; split <;> (try subst_vars) <;> omega
        refine ⟨l.length - (i + 1), by omega, i + 1, inc ca (257 + kL pn), inc cb (kD pf), by rw [i64_id (by omega)]; rfl, by omega, rfl, H, ⟨by rw [htk, cntS_snoc, ← hI.it]; unfold cnt1; rw [if_neg hpn], by rw [inc_len]; exact la, by rw [inc_len]; exact lb, fun j => by have := hI.ba j; rw [hg]; split <;> omega, fun j => by have := hI.bb j; rw [hgb]; split <;> omega, by have := hI.e; have := up 256; omega, fun p hp => ?_⟩⟩
        rw [htk] at hp
        rcases List.mem_append.1 hp with hp | hp
        · exact (hI.seen p hp).up up upb
        · rw [List.mem_singleton.1 hp]
          unfold Seen
          dsimp only
          rw [if_neg hpn, hg, if_pos rfl, hgb, if_pos rfl]
          omega
    · have : i = l.length := by omega
      subst this
      exact ⟨ca, cb, IV.blk (H.get 0 rfl) hI.la.symm, IV.blk (H.get 1 rfl) hI.lb.symm, hI, H.ext⟩
  · have mk : ∀ (w1 : World) (n : Nat), n ≤ 286 → ∃ w', RunV Tryd.prog (Instr.makeSlice 69 (.int .i64 (n : Int)) (.int .i64 (n : Int))) w1 (Slc.v ⟨some ⟨w1.heap.size, 0, none⟩, n, n⟩) w' ∧ Blk w' w1.heap.size (ints (List.replicate n 0)).toArray 3 ∧ Ext (fun _ => False) w1 w' ∧ w1.heap.size < w'.heap.size := fun w1 n hn => by
      obtain ⟨w', h1, h2⟩ := elI.make (zs := [.int .i64 0]) rfl w1 n (by omega) (by omega)
      rw [flat_zero] at h2
      subst h2
      exact ⟨_, h1, Blk.new w1 _ _, (Ext.refl _ _).alloc _, (Blk.new w1 _ _).lt⟩
    have hd := (Ext.refl (fun _ => False) w).drew
    refine ⟨?_, ?_⟩
    · obtain ⟨w1, r1, b1, e1, z1⟩ := mk w.drew 286 (by decide)
      obtain ⟨w2, r2, b2, e2, z2⟩ := mk w1 30 (by decide)
      refine ⟨_, w1, r1, _, w2, r2, _, _, rfl, ?_⟩
      have E := (hd.tr e1).tr e2
      exact (((Hn.start w).keep E).push (e2.blk b1 id) (Nat.le_refl _) (by simp)).push b2 (by have := e1.size; exact this) (by simp only [List.nil_append, List.map_cons, List.map_nil, List.mem_singleton]; omega)
    · obtain ⟨w1, r1, b1, e1, z1⟩ := mk w.drew 30 (by decide)
      obtain ⟨w2, r2, b2, e2, z2⟩ := mk w1 286 (by decide)
      refine ⟨_, w1, r1, _, w2, r2, _, _, rfl, ?_⟩
      have E := (hd.tr e1).tr e2
      exact (((Hn.start w).keep E).push b2 (by have := e1.size; exact this) (by simp)).push (e2.blk b1 id) (Nat.le_refl _) (by simp only [List.nil_append, List.map_cons, List.map_nil, List.mem_singleton]; omega)
/-- The slice's front. -/
theorem IV.front {w : World} {s : Slc} {l : List Int} (h : IV w s l) {m : Nat} (hm : m ≤ l.length) (cap : Nat) : IV w (s.cut 1 0 m cap) (l.take m) := by
  refine ⟨by show m - 0 = _; rw [List.length_take]; omega, by rw [ints_len, List.length_take]; show min m l.length = (m - 0) * 1; omega, fun j v hj => ?_⟩
  have hj2 : (ints l)[j]? = some v := by
    have hlt : j < m := by
      have := (List.getElem?_eq_some_iff.1 hj).1
      rw [ints_len, List.length_take] at this
      omega
    unfold ints at hj ⊢
    rw [List.getElem?_map, List.getElem?_take, if_pos hlt] at hj
    rw [List.getElem?_map]
    exact hj
  obtain ⟨a, ha, hc⟩ := h.2.2 j v hj2
  unfold Slc.cut
  dsimp only
  split
  · exact ⟨a, ha, hc⟩
  · refine ⟨a.add (0 * 1), by rw [ha]; rfl, ?_⟩
    rw [add_add', Nat.zero_mul, Nat.zero_add]
    exact hc
theorem c_cut {w : World} {s : Slc} {l : List Int} (h : IV w s l) (hc : s.len ≤ s.cap) (hl : l.length ≤ 100000) (keep : Nat) (hk : keep ≤ l.length) : C45 s (keep : Int) w fun r w1 => IV w1 r (l.take (cutN l keep l.length)) ∧ r.len = cutN l keep l.length ∧ w1 = w := by
  refine T45 _ _ _ _ ?_
  unfold S45
  have h1 := h.1
  rw [h1]
  refine ⟨fun m st w3 => ∃ n : Nat, st = (n : Int) ∧ n ≤ l.length ∧ keep ≤ n ∧ m = n ∧ cutN l keep n = cutN l keep l.length ∧ w3 = w, l.length, ⟨l.length, rfl, Nat.le_refl _, hk, rfl, rfl, rfl⟩, ?_⟩
  rintro m st w3 ⟨n, rfl, hn, hkn, rfl, hcn, rfl⟩
  unfold S45L1
  rw [h1]
  have fin : cutN l keep m = m → 0 ≤ (m : Int) ∧ (m : Int) ≤ ((s.cap : Nat) : Int) ∧ (IV w3 (s.cut 1 0 ((m : Int)).toNat s.cap) (l.take (cutN l keep l.length)) ∧ (s.cut 1 0 ((m : Int)).toNat s.cap).len = cutN l keep l.length ∧ w3 = w3) := fun e => by
    rw [← hcn, e, Int.toNat_natCast]
    exact ⟨by omega, by omega, h.front hn _, by show m - 0 = m; omega, rfl⟩
  refine Br.dec (fun q => ?_) fun q => fin ?_
  · obtain ⟨k, rfl⟩ : ∃ k, m = k + 1 := ⟨m - 1, by omega⟩
    rw [i64_id (by omega), show ((k + 1 : Nat) : Int) - 1 = (k : Int) by omega]
    obtain ⟨a, ha, hcell⟩ := h.get (i := k) (by omega)
    rw [ha]
    refine ⟨by omega, by omega, Nn.of ?_⟩
    rw [Int.toNat_natCast]
    refine Ld.mk (x := l.getD k 0) hcell (Br.eq (fun q2 => ?_) fun q2 => fin ?_)
    · refine ⟨k, by omega, k, rfl, by omega, by omega, rfl, ?_, rfl⟩
      rw [← hcn]
      conv => rhs; unfold cutN
      rw [if_pos ⟨by omega, q2⟩]
    · conv => lhs; unfold cutN
      rw [if_neg (fun hh => q2 hh.2)]
  · cases m with
    | zero => rfl
    | succ m =>
      conv => lhs; unfold cutN
      rw [if_neg (fun hh => by omega)]
end Inf
end Go.Proofs.YtjkoafjnmkchdaaDoor

/- Deflate: marks of code lengths; the order of the lengths. Conditions: sizes. -/
namespace Go.Proofs.YtjkoafjnmkchdaaDoor
namespace Inf
open Sh Bit
set_option linter.unusedVariables false
set_option linter.unusedSimpArgs false
set_option maxRecDepth 4000
set_option maxHeartbeats 1000000
attribute [local irreducible] Ld St Nw Nn Lt LdS
def mrow (m : Mk) : List Value := [.int .i64 (m.1 : Int), .int .i64 (m.2.1 : Int), .int .i64 (m.2.2 : Int)]
theorem elM : El Tryd.prog 82 85 3 24 (.agg (mrow (0, 0, 0)).toArray) := ⟨by kernel_rfl, by kernel_rfl, by kernel_rfl, by kernel_rfl, rfl⟩
theorem m_len (L : List Mk) : (L.flatMap mrow).length = L.length * 3 := by
  induction L with
  | nil => rfl
  | cons o L ih => rw [List.flatMap_cons, List.length_append, ih, List.length_cons]; simp [mrow]; omega
theorem m_get {L : List Mk} {i j : Nat} {o : Mk} (hi : L[i]? = some o) (hj : j < 3) : (L.flatMap mrow)[i * 3 + j]? = (mrow o)[j]? := by
  induction L generalizing i with
  | nil => cases hi
  | cons p L ih =>
    rw [List.flatMap_cons]
    cases i with
    | zero =>
      cases hi
      rw [Nat.zero_mul, Nat.zero_add, List.getElem?_append_left (by simp [mrow]; omega)]
    | succ i =>
      rw [List.getElem?_append_right (by simp [mrow]; omega), ← ih (by simpa using hi)]
      congr 1
      simp only [mrow, List.length_cons, List.length_nil]
      omega
theorem m_one (L : List Mk) : ∀ v ∈ L.flatMap mrow, v.oneCell' = true := by
  intro v hv
  obtain ⟨q, _, hq⟩ := List.mem_flatMap.1 hv
  unfold mrow at hq
  rcases List.mem_cons.1 hq with rfl | hq
  · rfl
  rcases List.mem_cons.1 hq with rfl | hq
  · rfl
  rcases List.mem_cons.1 hq with rfl | hq
  · rfl
  · cases hq
/-- The marks of a slice. -/
def MV (w : World) (s : Slc) (L : List Mk) : Prop := s.len = L.length ∧ VRow w s 3 (L.flatMap mrow)
theorem MV.keep {w w' : World} {s : Slc} {L : List Mk} (h : MV w s L) (he : Ext (fun _ => False) w w') : MV w' s L := ⟨h.1, h.2.keep he⟩
theorem MV.get {w : World} {s : Slc} {L : List Mk} (h : MV w s L) {i : Nat} {o : Mk} (hi : L[i]? = some o) : ∃ a, s.p = some a ∧ w.cell? (a.add (i * 3)) = some (.int .i64 (o.1 : Int)) ∧ w.cell? ((a.add (i * 3)).add 1) = some (.int .i64 (o.2.1 : Int)) ∧ w.cell? ((a.add (i * 3)).add 2) = some (.int .i64 (o.2.2 : Int)) := by
  have g : ∀ j v, j < 3 → (mrow o)[j]? = some v → ∃ a, s.p = some a ∧ w.cell? ((a.add (i * 3)).add j) = some v := fun j v hj hv => by
    obtain ⟨a, ha, hc⟩ := h.2.2 (i * 3 + j) v (by rw [m_get hi hj]; exact hv)
    exact ⟨a, ha, by rw [add_add']; exact hc⟩
  obtain ⟨a, ha, c0⟩ := g 0 _ (by omega) rfl
  obtain ⟨a1, ha1, c1⟩ := g 1 _ (by omega) rfl
  obtain ⟨a2, ha2, c2⟩ := g 2 _ (by omega) rfl
  rw [ha] at ha1 ha2
  cases ha1; cases ha2
  exact ⟨a, ha, by rw [add_add'] at c0; exact c0, c1, c2⟩
/-- Marks are appended. -/
theorem pushM {w : World} {sl : Slc} {D : List Mk} (hr : Row w sl 85 3 (D.flatMap mrow)) (hl : D.length ≤ 2000000) (Q : List Mk) (hQ : Q.length ≤ 2) {n : Nat} (hn : n = Q.length) {cs : Array Value} (hcs : cs = (Q.flatMap mrow).toArray) {K : Slc → World → Prop}
    (k : ∀ s' w', Row w' s' 85 3 ((D ++ Q).flatMap mrow) → Ext sl.own w w' → (∀ j, s'.own j → sl.own j ∨ w.heap.size ≤ j) → K s' w') :
    Nw w (.cells cs 85) fun v => Rn Tryd.prog (Builtin.append_ #[82, 82] 82 #[Slc.v sl, Slc.v ((⟨some ⟨w.heap.size, 0, none⟩, n, n⟩ : Slc))]) v Slc.v K := by
  subst hcs hn
  refine Nw.of ?_
  have e1 := (Ext.refl (fun _ => False) w).alloc (.cells (Q.flatMap mrow).toArray 85)
  have hsl : sl.len = D.length := by
    have := hr.1
    rw [m_len] at this
    omega
  obtain ⟨s', w', hrun, hrow, hlen, hext, hown⟩ := elM.app (ty := 82) (s2 := ⟨some ⟨w.heap.size, 0, none⟩, Q.length, Q.length⟩) (hr.keep e1 fun _ _ h => h) (VRow.of (Blk.new w _ _) (m_len Q)) (m_one Q) (by show (sl.len + Q.length) * 24 ≤ _; omega) (by show sl.len + Q.length ≤ _; omega)
  refine ⟨s', w', hrun, k s' w' ?_ ?_ fun j hj => (hown j hj).imp id fun h => Nat.le_trans e1.size h⟩
  · rw [List.flatMap_append]
    exact hrow
  · exact (e1.mono fun _ _ h => h.elim).trans hext (fun _ h => h) fun _ _ h => h
theorem row_mv {w : World} {sl : Slc} {D : List Mk} (hr : Row w sl 85 3 (D.flatMap mrow)) : MV w sl D := by
  refine ⟨?_, hr.view⟩
  have := hr.1
  rw [m_len] at this
  omega
theorem marksF_more (l : List Int) : ∀ (k d i : Nat), l.length ≤ i + k → marksF l (k + d) i = marksF l k i
  | 0, 0, i, h => rfl
  | 0, d + 1, i, h => by
    show marksF l (0 + d + 1) i = []
    unfold marksF
    rw [if_pos (by omega)]
  | k + 1, d, i, h => by
    rw [show k + 1 + d = k + d + 1 by omega]
    unfold marksF
    split
    · rfl
    · rename_i c1
      have h1 : 1 ≤ (markAt l i).2 := by
        have := runK_spec l i (l.length - (i + 1)) 1
        unfold markAt
        dsimp only
        split
        · omega
        · split
          · omega
          · split <;> omega
      rw [marksF_more l k d (i + (markAt l i).2) (by omega)]
theorem markAt_bd (l : List Int) {i : Nat} (hi : i < l.length) : 1 ≤ (markAt l i).2 ∧ i + (markAt l i).2 ≤ l.length ∧ (markAt l i).1.length ≤ 2 := by
  have := runK_spec l i (l.length - (i + 1)) 1
  unfold markAt
  dsimp only
  split
  · exact ⟨by omega, by omega, by simp⟩
  · split
    · exact ⟨by omega, by omega, by simp⟩
    · split
      · exact ⟨by omega, by omega, by simp⟩
      · exact ⟨by omega, by omega, by simp⟩
theorem marksF_step (l : List Int) {i : Nat} (hi : i < l.length) : marksF l (l.length - i) i = (markAt l i).1 ++ marksF l (l.length - (i + (markAt l i).2)) (i + (markAt l i).2) := by
  obtain ⟨h1, h2, _⟩ := markAt_bd l hi
  rw [show l.length - i = (l.length - (i + 1)) + 1 by omega]
  conv => lhs; unfold marksF
  rw [if_neg (by omega)]
  congr 1
  have := marksF_more l (l.length - (i + (markAt l i).2)) ((markAt l i).2 - 1) (i + (markAt l i).2) (by omega)
  rw [← this]
  congr 1
  omega
theorem runK_step (l : List Int) (i n k : Nat) : runK l i n (k + 1) = if l.getD (i + n) 0 = l.getD i 0 then runK l i (n + 1) k else n := rfl
/-- foliant/deflate.marks -/
theorem c_marks {w : World} {s : Slc} {l : List Int} (h : IV w s l) (hlen : l.length ≤ 1000) (hl : ∀ i, 0 ≤ l.getD i 0 ∧ l.getD i 0 ≤ 15) : C46 s w fun r w1 => MV w1 r (marksS l) ∧ Ext (fun _ => False) w w1 := by
  refine T46 _ _ _ ?_
  unfold S46
  refine ⟨fun m st w3 => ∃ (i : Nat) (D : List Mk), st.2 = (i : Int) ∧ i ≤ l.length ∧ m = l.length - i ∧ D.length ≤ 2 * i ∧ Row w3 st.1 85 3 (D.flatMap mrow) ∧ D ++ marksF l (l.length - i) i = marksS l ∧ Ext (fun _ => False) w w3 ∧ ∀ j, st.1.own j → w.heap.size ≤ j, l.length,
    ⟨0, [], rfl, Nat.zero_le _, rfl, Nat.le_refl _, Row.nil _ _ _, rfl, Ext.refl _ _, fun j hj => by obtain ⟨a, ha, _⟩ := hj; cases ha⟩, ?_⟩
  rintro m ⟨sl, i'⟩ w3 ⟨i, D, hi', hi, rfl, hD, hr, hres, he, ho⟩
  simp only at hi' hr ho
  subst hi'
  have h1 := h.1
  unfold S46L2
  dsimp only
  rw [h1]
  refine Br.dec (fun q => ?_) fun q => ?_
  · have hil : i < l.length := by omega
    have hx := hl i
    obtain ⟨b1, b2, b3⟩ := markAt_bd l hil
    rw [marksF_step l hil] at hres
    have spec := runK_spec l i (l.length - (i + 1)) 1
    refine ⟨fun n' w4 => n' = (runK l i 1 (l.length - (i + 1)) : Int) ∧ Ext (fun _ => False) w3 w4, ?_, ?_⟩
    · rintro _ w4 ⟨rfl, e4⟩
      unfold S46J1
      dsimp only
      rw [h1]
      have hr := hr.keep e4 fun _ _ h => h
      have he4 := he.tr e4
      obtain ⟨a, ha, hc⟩ := (h.keep he4).get hil
      rw [ha, Int.toNat_natCast]
      have zz := he4.size
      -- what follows the append
      have next : ∀ (Q : List Mk) (n : Nat), markAt l i = (Q, n) → ∀ s' w', Row w' s' 85 3 ((D ++ Q).flatMap mrow) → Ext sl.own w4 w' → (∀ j, s'.own j → sl.own j ∨ w4.heap.size ≤ j) → ∀ x : Int, x = ((i + n : Nat) : Int) → ∃ n', n' < l.length - i ∧ ∃ (i_1 : Nat) (D : List Mk), x = (i_1 : Int) ∧ i_1 ≤ l.length ∧ n' = l.length - i_1 ∧ D.length ≤ 2 * i_1 ∧ Row w' s' 85 3 (D.flatMap mrow) ∧ D ++ marksF l (l.length - i_1) i_1 = marksS l ∧ Ext (fun _ => False) w w' ∧ ∀ j, s'.own j → w.heap.size ≤ j := by
        rintro Q n hm s' w' r1 r2 r3 x rfl
        rw [hm] at b1 b2 b3 hres
        dsimp only at b1 b2 b3 hres
        refine ⟨l.length - (i + n), by omega, i + n, D ++ Q, rfl, b2, rfl, by rw [List.length_append]; omega, r1, by rw [List.append_assoc]; exact hres, he4.trans r2 (fun _ h => h) fun j hj e => by have := ho j e; omega, fun j hj => ?_⟩
        rcases r3 j hj with e | e
        · exact ho j e
        · omega
      unfold markAt at next
      dsimp only at next
      generalize hn : runK l i 1 (l.length - (i + 1)) = n at spec next ⊢
      have hxn : ((l.getD i 0).toNat : Int) = l.getD i 0 := by omega
      refine ⟨by omega, by omega, Nn.of (Ld.mk (x := l.getD i 0) hc (Br.eq (fun q1 => ?_) fun q1 => ?_))⟩
      · refine Br.dec (fun q2 => ?_) fun q2 => ?_
        · rw [if_pos ⟨q1, by omega⟩] at next
          have em : (if (138 : Int) < (n : Int) then 138 else (n : Int)) = ((min n 138 : Nat) : Int) := by split <;> omega
          rw [em, i64_id (n := ((min n 138 : Nat) : Int) - 11) (by omega), show ((min n 138 : Nat) : Int) - 11 = ((min n 138 - 11 : Nat) : Int) by omega]
          refine pushM (D := D) hr (by omega) [(18, min n 138 - 11, 7)] (by simp) rfl rfl fun s' w' r1 r2 r3 => ?_
          exact next _ _ rfl s' w' r1 r2 r3 _ (by rw [i64_id (by omega)]; omega)
        · rw [if_neg (fun hh => by omega)] at next
          refine ⟨by omega, by omega, Nn.of (Ld.mk (x := l.getD i 0) hc (Br.eq (fun _ => ?_) fun hh => absurd q1 hh))⟩
          refine Br.dec (fun q3 => ?_) fun q3 => ?_
          · rw [if_pos ⟨q1, by omega⟩] at next
            rw [i64_id (n := (n : Int) - 3) (by omega), show (n : Int) - 3 = ((n - 3 : Nat) : Int) by omega]
            refine pushM (D := D) hr (by omega) [(17, n - 3, 3)] (by simp) rfl rfl fun s' w' r1 r2 r3 => ?_
            exact next _ _ rfl s' w' r1 r2 r3 _ (by rw [i64_id (by omega)]; omega)
          · rw [if_neg (fun hh => by omega)] at next
            refine Br.dec (fun q4 => absurd q4 (by omega)) fun q4 => ?_
            rw [if_neg (by omega)] at next
            refine ⟨by omega, by omega, Nn.of (Ld.mk (x := l.getD i 0) hc ?_)⟩
            rw [← hxn]
            refine pushM (D := D) hr (by omega) [((l.getD i 0).toNat, 0, 0)] (by simp) rfl rfl fun s' w' r1 r2 r3 => ?_
            exact next _ _ rfl s' w' r1 r2 r3 _ (by rw [i64_id (by omega)]; omega)
      · rw [if_neg (fun hh => q1 hh.1), if_neg (fun hh => q1 hh.1)] at next
        refine ⟨by omega, by omega, Nn.of (Ld.mk (x := l.getD i 0) hc (Br.eq (fun hh => absurd hh q1) fun _ => ?_))⟩
        refine Br.dec (fun q4 => ?_) fun q4 => ?_
        · rw [if_pos (by omega)] at next
          have em : (if (7 : Int) < (n : Int) then 7 else (n : Int)) = ((min n 7 : Nat) : Int) := by split <;> omega
          refine ⟨by omega, by omega, Nn.of (Ld.mk (x := l.getD i 0) hc ?_)⟩
          rw [em, i64_id (n := ((min n 7 : Nat) : Int) - 4) (by omega), show ((min n 7 : Nat) : Int) - 4 = ((min n 7 - 4 : Nat) : Int) by omega, ← hxn]
          refine pushM (D := D) hr (by omega) [((l.getD i 0).toNat, 0, 0), (16, min n 7 - 4, 2)] (by simp) rfl rfl fun s' w' r1 r2 r3 => ?_
          exact next _ _ rfl s' w' r1 r2 r3 _ (by rw [i64_id (by omega)]; omega)
        · rw [if_neg (by omega)] at next
          refine ⟨by omega, by omega, Nn.of (Ld.mk (x := l.getD i 0) hc ?_)⟩
          rw [← hxn]
          refine pushM (D := D) hr (by omega) [((l.getD i 0).toNat, 0, 0)] (by simp) rfl rfl fun s' w' r1 r2 r3 => ?_
          exact next _ _ rfl s' w' r1 r2 r3 _ (by rw [i64_id (by omega)]; omega)
    · refine ⟨fun m st w4 => ∃ n : Nat, st = (n : Int) ∧ 1 ≤ n ∧ i + n ≤ l.length ∧ m = l.length - n ∧ runK l i n (l.length - (i + n)) = runK l i 1 (l.length - (i + 1)) ∧ Ext (fun _ => False) w3 w4, l.length - 1, ⟨1, rfl, Nat.le_refl _, by omega, rfl, rfl, Ext.refl _ _⟩, ?_⟩
      rintro m st w4 ⟨n, rfl, n1, n2, rfl, hrn, e4⟩
      unfold S46L1
      dsimp only
      rw [h1, i64_id (n := (i : Int) + (n : Int)) (by omega), show (i : Int) + (n : Int) = ((i + n : Nat) : Int) by omega]
      refine Br.dec (fun q1 => ?_) fun q1 => ?_
      · obtain ⟨a, ha, hc⟩ := (h.keep (he.tr e4.drew)).get (i := i + n) (by omega)
        obtain ⟨a', ha', hc'⟩ := (h.keep (he.tr e4.drew)).get hil
        rw [ha] at ha'
        cases ha'
        rw [ha]
        refine ⟨by omega, by omega, Nn.of ?_⟩
        rw [Int.toNat_natCast, Int.toNat_natCast]
        refine Ld.mk (x := l.getD (i + n) 0) hc ⟨by omega, by omega, Nn.of (Ld.mk (x := l.getD i 0) hc' ?_)⟩
        rw [show l.length - (i + n) = (l.length - (i + (n + 1))) + 1 by omega, runK_step] at hrn
        refine Br.eq (fun q2 => ?_) fun q2 => ?_
        · rw [if_pos q2] at hrn
          exact ⟨l.length - (n + 1), by omega, n + 1, by rw [i64_id (by omega)]; rfl, by omega, by omega, rfl, hrn, e4.drew⟩
        · rw [if_neg q2] at hrn
          exact ⟨by rw [hrn], e4.drew⟩
      · have : l.length - (i + n) = 0 := by omega
        rw [this] at hrn
        exact ⟨by rw [← hrn]; rfl, e4.drew⟩
  · have : i = l.length := by omega
    subst this
    rw [Nat.sub_self] at hres
    have hres : D ++ [] = _ := hres
    rw [List.append_nil] at hres
    rw [← hres]
    exact ⟨row_mv hr, he⟩
end Inf
end Go.Proofs.YtjkoafjnmkchdaaDoor

/- The copy of a string, by the kit's summary. No condition but its size. -/
namespace Go.Proofs.YtjkoafjnmkchdaaDoor
open Sh
set_option linter.unusedVariables false
set_option linter.unusedSimpArgs false
def cloneR : Go.Shelf.Ren := { f := fun _ => 49, t := fun k => if k = 37 then 32 else if k = 47 then 119 else k, g := fun k => k }
section
variable {P : Program} {t : TypeId} {d : TypeDesc} {z : Value} {n b : Nat}
theorem lay_z (h : (P.info? t).map (fun i => (i.zero, i.size, i.bytes)) = some (some z, n, b)) (w : World) : (Go.sizeOf t).run P w = .ok n w ∧ (zeroValue t).run P w = .ok z w := by
  cases hi : P.info? t with
  | none => rw [hi] at h; cases h
  | some i =>
    rw [hi] at h
    have h := Option.some.inj h
    have h1 : i.zero = some z := congrArg (fun x => x.1) h
    have h2 : i.size = n := congrArg (fun x => x.2.1) h
    subst h2
    exact ⟨by simp [sizeOf, typeInfo, hi], by simp [zeroValue, typeInfo, hi, h1]⟩
end
theorem lt0 : Tryd.prog.underlying 0 = some (TypeDesc.tuple #[]) := by kernel_rfl
theorem li0 : (Tryd.prog.info? 0).map (fun i => (i.zero, i.size, i.bytes)) = some (some (Value.tuple #[]), 1, 0) := by kernel_rfl
theorem la0 (w : World) : (isAgg 0).run Tryd.prog w = .ok false w := by simp [isAgg, run_underlying lt0]
theorem lt3 : Tryd.prog.underlying 3 = some (TypeDesc.int IntKind.i64) := by kernel_rfl
theorem li3 : (Tryd.prog.info? 3).map (fun i => (i.zero, i.size, i.bytes)) = some (some (Value.int IntKind.i64 0), 1, 8) := by kernel_rfl
theorem la3 (w : World) : (isAgg 3).run Tryd.prog w = .ok false w := by simp [isAgg, run_underlying lt3]
theorem lt4 : Tryd.prog.underlying 4 = some (TypeDesc.bool) := by kernel_rfl
theorem li4 : (Tryd.prog.info? 4).map (fun i => (i.zero, i.size, i.bytes)) = some (some (Value.bool false), 1, 1) := by kernel_rfl
theorem la4 (w : World) : (isAgg 4).run Tryd.prog w = .ok false w := by simp [isAgg, run_underlying lt4]
theorem lt5 : Tryd.prog.underlying 5 = some (TypeDesc.int IntKind.u8) := by kernel_rfl
theorem li5 : (Tryd.prog.info? 5).map (fun i => (i.zero, i.size, i.bytes)) = some (some (Value.int IntKind.u8 0), 1, 1) := by kernel_rfl
theorem la5 (w : World) : (isAgg 5).run Tryd.prog w = .ok false w := by simp [isAgg, run_underlying lt5]
theorem lt9 : Tryd.prog.underlying 9 = some (TypeDesc.string) := by kernel_rfl
theorem li9 : (Tryd.prog.info? 9).map (fun i => (i.zero, i.size, i.bytes)) = some (some (Value.string { data := #[] }), 1, 16) := by kernel_rfl
theorem la9 (w : World) : (isAgg 9).run Tryd.prog w = .ok false w := by simp [isAgg, run_underlying lt9]
theorem lt37 : Tryd.prog.underlying 32 = some (TypeDesc.slice 5) := by kernel_rfl
theorem li37 : (Tryd.prog.info? 32).map (fun i => (i.zero, i.size, i.bytes)) = some (some (Value.slice none 0 0), 1, 24) := by kernel_rfl
theorem la37 (w : World) : (isAgg 32).run Tryd.prog w = .ok false w := by simp [isAgg, run_underlying lt37]
theorem lt47 : Tryd.prog.underlying 119 = some (TypeDesc.pointer 5) := by kernel_rfl
theorem li47 : (Tryd.prog.info? 119).map (fun i => (i.zero, i.size, i.bytes)) = some (some (Value.pointer none), 1, 8) := by kernel_rfl
theorem la47 (w : World) : (isAgg 119).run Tryd.prog w = .ok false w := by simp [isAgg, run_underlying lt47]
set_option maxRecDepth 100000 in
theorem clone_lays : LaysPu.n25 Tryd.prog cloneR where
  mixed := by kernel_rfl
  f25 := by kernel_rfl
  t0 := lt0
  a0 := la0
  z0 := fun w => (lay_z li0 w).1
  v0 := fun w => (lay_z li0 w).2
  i0 := li0
  t3 := lt3
  a3 := la3
  z3 := fun w => (lay_z li3 w).1
  v3 := fun w => (lay_z li3 w).2
  i3 := li3
  t4 := lt4
  a4 := la4
  z4 := fun w => (lay_z li4 w).1
  v4 := fun w => (lay_z li4 w).2
  i4 := li4
  t5 := lt5
  a5 := la5
  z5 := fun w => (lay_z li5 w).1
  v5 := fun w => (lay_z li5 w).2
  i5 := li5
  t9 := lt9
  a9 := la9
  z9 := fun w => (lay_z li9 w).1
  v9 := fun w => (lay_z li9 w).2
  i9 := li9
  t37 := lt37
  a37 := la37
  z37 := fun w => (lay_z li37 w).1
  v37 := fun w => (lay_z li37 w).2
  i37 := li37
  t47 := lt47
  a47 := la47
  z47 := fun w => (lay_z li47 w).1
  v47 := fun w => (lay_z li47 w).2
  i47 := li47
theorem ext_below {B : Nat} {w w' : World} (h : Go.RowKit.Below B w w') (hB : B = w.heap.size) : Ext (fun _ => False) w w' := by
  subst hB
  exact ⟨h.os, h.tape, h.output, h.size, fun k hk _ => h.block k hk⟩
theorem c_cloneS (s : ByteArray) (hs : s.size ≤ 281474976710656) (w : World) : C49 s w fun r w1 => r = s ∧ Ext (fun _ => False) w w1 := by
  have := AnyPu.stringslite_Clone clone_lays s w hs
  exact this.mono fun e w' ⟨he, hb⟩ => ⟨s, he, rfl, ext_below hb rfl⟩
end Go.Proofs.YtjkoafjnmkchdaaDoor

/- Deflate: a block with its own codes. Conditions: sizes. -/
namespace Go.Proofs.YtjkoafjnmkchdaaDoor
namespace Inf
open Sh Bit
set_option linter.unusedVariables false
set_option linter.unusedSimpArgs false
set_option maxRecDepth 4000
set_option maxHeartbeats 2000000
attribute [local irreducible] Ld St Nw Nn Lt LdS
theorem why_zero {c : List Int} {m : Nat} (h : c.length ≤ 288) (hm : 1 ≤ m ∧ m ≤ 15) (hc : ∀ i, i < c.length → 0 ≤ c.getD i 0 ∧ c.getD i 0 ≤ 2147483647) (h2 : c.length ≤ 2 ^ m) : Pm.why c (m : Int) = 0 := by
  rw [Srt.why_rest h (by omega) hc, if_neg]
  rw [Int.toNat_natCast, ← Pm.lv_srt]
  have := Pm.lv_len c c.length
  omega
/-- Lengths of counted signs. -/
theorem c_len {w : World} {s : Slc} {c : List Int} (h : IV w s c) (hl : c.length ≤ 288) {m : Nat} (hm : 1 ≤ m ∧ m ≤ 15) (hc : ∀ i, i < c.length → 0 ≤ c.getD i 0 ∧ c.getD i 0 ≤ 2147483647) (h2 : c.length ≤ 2 ^ m) :
    C44 s (m : Int) w (fun r e w1 => Ext (fun _ => False) w w1 ∧ ∃ l, IV w1 r l ∧ r.len ≤ r.cap ∧ l.length = c.length ∧ chk l = 0 ∧ (∀ i, 0 ≤ l.getD i 0 ∧ l.getD i 0 ≤ (m : Int)) ∧ (∀ i, 0 < c.getD i 0 → 0 < l.getD i 0) ∧ Srt.LenOf c m l) fun _ _ => False := by
  refine (Srt.c_lengthsC h).mono ?_ fun _ _ h => h
  rintro r e w1 ⟨_, he, _, h4⟩
  obtain ⟨l, a, b, d, u⟩ := h4 (why_zero hl hm hc h2)
  rw [Int.toNat_natCast] at u
  have out : ∀ i, ¬ i < c.length → l.getD i 0 = 0 ∧ c.getD i 0 = 0 := fun i hi => by
    have := b.len
    exact ⟨by rw [List.getD_eq_getElem?_getD, List.getElem?_eq_none (by omega)]; rfl, by rw [List.getD_eq_getElem?_getD, List.getElem?_eq_none (by omega)]; rfl⟩
  refine ⟨he, l, a, d, b.len, b.chk, fun i => ?_, fun i hi => ?_, u⟩
  · by_cases hi : i < c.length
    · have := b.most i hi
      rw [Int.toNat_natCast] at this
      exact ⟨this.1, this.2.1⟩
    · rw [(out i hi).1]; omega
  · by_cases hi2 : i < c.length
    · have := b.most i hi2
      have h3 := this.2.2
      have h1 := this.1
      rcases Int.lt_or_le 0 (l.getD i 0) with h | h
      · exact h
      · have := h3.1 (by omega)
        omega
    · have := (out i hi2).2
      omega
theorem FitM.ok {many : Nat} : ∀ (M : List Mk) (acc : List Int), FitM many M acc → ∀ m ∈ M, m.ok
  | [], _, _, m, hm => by cases hm
  | q :: M, acc, h, m, hm => by
    obtain ⟨h1, _, _, h4⟩ := h
    rcases List.mem_cons.1 hm with rfl | hm
    · exact h1
    · exact FitM.ok M _ h4 m hm
/-- The order as the program holds it. -/
theorem c_places (w : World) : C47 w fun r w1 => r = (16, 17, 18, 0, 8, 7, 9, 6, 10, 5, 11, 4, 12, 3, 13, 2, 14, 1, 15) ∧ Ext (fun _ => False) w w1 := by
  refine T47 _ _ ?_
  unfold S47
  refine (Hn.start w).nw fun w2 H => ?_
  simp only [List.nil_append] at H
  iterate 19 (refine H.st 0 rfl (by simp) fun _ H => ?_; simp only [List.nil_append, List.cons_append, List.set_cons_zero, List.set_cons_succ, Nat.zero_add] at H)
  iterate 19 refine H.ld 0 rfl rfl ?_
  exact ⟨rfl, H.ext⟩
theorem ord_at {i : Nat} (h : i < 19) : (#[.int .i64 16, .int .i64 17, .int .i64 18, .int .i64 0, .int .i64 8, .int .i64 7, .int .i64 9, .int .i64 6, .int .i64 10, .int .i64 5, .int .i64 11, .int .i64 4, .int .i64 12, .int .i64 3, .int .i64 13, .int .i64 2, .int .i64 14, .int .i64 1, .int .i64 15] : Array Value)[i]? = some (.int .i64 ((order.getD i 0 : Nat) : Int)) := by
  have e : (#[.int .i64 16, .int .i64 17, .int .i64 18, .int .i64 0, .int .i64 8, .int .i64 7, .int .i64 9, .int .i64 6, .int .i64 10, .int .i64 5, .int .i64 11, .int .i64 4, .int .i64 12, .int .i64 3, .int .i64 13, .int .i64 2, .int .i64 14, .int .i64 1, .int .i64 15] : Array Value) = (ints (ordI order)).toArray := rfl
  rw [e, List.getElem?_toArray, ints_get (by rw [ordI_len]; exact h), ordI_get]
/-- The counts of the marks. -/
def cntM (M : List Mk) : List Int := M.foldl (fun c m => inc c m.1) (List.replicate 19 0)
theorem cntM_snoc (M : List Mk) (m : Mk) : cntM (M ++ [m]) = inc (cntM M) m.1 := by
  unfold cntM
  rw [List.foldl_append]
  rfl
/-- The marks are counted. -/
theorem own_marks {w : World} {r29 x31 r20 r22 s : Slc} {vw10 : World} {M : List Mk} (hM : MV w r29 M) (hl : M.length ≤ 1000) (hok : ∀ m ∈ M, m.1 < 19) {g : Nat} {R : ByteArray → World → Prop} (hx : x31 = ⟨some ⟨g, 0, none⟩, 19, 19⟩) {w32 : World} (H : Hn w w32 [(g, ints (List.replicate 19 0), 3)])
    (k : ∀ w' cm, Hn w w' [(g, ints cm, 3)] → cm.length = 19 → (∀ j, 0 ≤ cm.getD j 0 ∧ cm.getD j 0 ≤ 2147483647) → (∀ m ∈ M, 0 < cm.getD m.1 0) → cm = cntM M → C44 x31 7 w' (fun r65 r66 vw67 =>
      C41 r65 vw67 fun r68 r69 vw70 =>
        C47 vw70 fun r82 vw83 =>
          Lp (σ := Slc × Int) (S24L3 s vw10 r20 r22 r29 r65 r68 r82 R) ((⟨none, 0, 0⟩ : Slc), 0) vw83) fun _ _ => False) :
    Lp (σ := Int) (S24L4 s vw10 r20 r22 r29 x31 R fun _ _ => False) 0 w32 := by
  subst hx
  refine ⟨fun m i' w4 => ∃ (i : Nat) (cm : List Int), i' = (i : Int) ∧ i ≤ M.length ∧ m = M.length - i ∧ Hn w w4 [(g, ints cm, 3)] ∧ cm.length = 19 ∧ (∀ j, 0 ≤ cm.getD j 0 ∧ cm.getD j 0 ≤ (i : Int)) ∧ (∀ q ∈ M.take i, 0 < cm.getD q.1 0) ∧ cm = cntM (M.take i), M.length, ⟨0, _, rfl, Nat.zero_le _, rfl, H, List.length_replicate, fun j => by rw [rep_get]; omega, (fun q hq => by cases hq), rfl⟩, ?_⟩
  rintro m i' w4 ⟨i, cm, rfl, hi, rfl, H, hcl, hcb, hcp, hcm⟩
  unfold S24L4
  rw [hM.1]
  dsimp only
  refine Br.dec (fun q => ?_) fun q => ?_
  · have hil : i < M.length := by omega
    have hio : M[i]? = some M[i] := List.getElem?_eq_getElem hil
    have hmk := hok M[i] (List.getElem_mem hil)
    have htk : M.take (i + 1) = M.take i ++ [M[i]] := by rw [List.take_add_one, hio]; rfl
    obtain ⟨a, ha, c0, c1, c2⟩ := (hM.keep H.ext).get hio
    generalize M[i] = mk at *
    rw [ha]
    refine ⟨by omega, by omega, Nn.of ?_⟩
    rw [Int.toNat_natCast]
    refine Ld.mk (x := (mk.1 : Int)) c0 (Ld.mk (x := (mk.2.1 : Int)) c1 (Ld.mk (x := (mk.2.2 : Int)) c2 ?_))
    refine H.nw fun w5 H => ?_
    simp only [List.cons_append, List.nil_append] at H
    iterate 3 (refine H.st 1 rfl (by simp) fun _ H => ?_; simp only [List.nil_append, List.cons_append, List.set_cons_zero, List.set_cons_succ, Nat.zero_add] at H)
    iterate 1 refine H.ld 1 rfl rfl ?_
    have hb := hcb mk.1
    refine ⟨by omega, by omega, Nn.of ?_⟩
    simp only [add_lit, Int.toNat_natCast, Nat.mul_one, Nat.zero_add]
    refine H.ld 0 rfl (ints_get (by omega)) ?_
    refine ⟨by omega, by omega, Nn.of ?_⟩
    simp only [add_lit, Int.toNat_natCast, Nat.mul_one, Nat.zero_add]
    rw [i64_id (n := cm.getD mk.1 0 + 1) (by omega)]
    refine H.st 0 rfl (by rw [ints_len]; omega) fun w9 H => ?_
    simp only [List.set_cons_zero, List.set_cons_succ] at H
    rw [ints_set] at H
    have H := Hn.left (L := [_]) (M := [_]) H
    have hg := fun j => inc_get (c := cm) (o := mk.1) (by omega) j
    refine ⟨M.length - (i + 1), by omega, i + 1, inc cm mk.1, by rw [i64_id (by omega)]; rfl, by omega, rfl, H, by rw [inc_len]; exact hcl, fun j => by have := hcb j; rw [hg]; split <;> omega, fun q hq => ?_, by rw [htk, cntM_snoc, ← hcm]⟩
    rw [htk] at hq
    rw [hg]
    rcases List.mem_append.1 hq with hq | hq
    · have := hcp q hq
      split <;> omega
    · rw [List.mem_singleton.1 hq, if_pos rfl]
      omega
  · have : i = M.length := by omega
    subst this
    rw [List.take_length] at hcp hcm
    exact k w4 cm H hcl (fun j => by have := hcb j; omega) hcp hcm
end Inf
end Go.Proofs.YtjkoafjnmkchdaaDoor
