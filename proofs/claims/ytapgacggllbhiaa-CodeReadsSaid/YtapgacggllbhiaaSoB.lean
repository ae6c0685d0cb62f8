/- A stable sort of coins: the row, the comparison, the insertion sort. Conditions: sizes. -/
import Derived.Test.YtapgacggllbhiaaSoA
import Derived.Test.YtapgacggllbhiaaFnSort
import Derived.Test.YtapgacggllbhiaaEl
namespace Go.Proofs.Ytapgacggllbhiaa
namespace Srt
open Sh
set_option linter.unusedVariables false
set_option linter.unusedSimpArgs false
set_option maxRecDepth 4000
set_option maxHeartbeats 2000000
theorem Br.t {b : Bool} {A B : Prop} (h : b = true) (h1 : A) : Br b A B := by rw [h]; exact h1
theorem Br.f {b : Bool} {A B : Prop} (h : b = false) (h1 : B) : Br b A B := by rw [h]; exact h1
theorem ldS_mk {α : Type} {S : World → Prop} {V : α → Value} {K : α → Prop} {x : α} {a : Addr} (h : ∀ w, S w → w.cell? a = some (V x)) (k : K x) : LdS S a V K := ⟨x, h, k⟩
def ptr (b : Nat) : Value := .pointer (some ⟨b, 0, none⟩)
def ptrs (l : List E) : List Value := l.map fun e => ptr e.1
theorem ptrs_len (l : List E) : (ptrs l).length = l.length := by unfold ptrs; simp
/-- A row of pointers to coins. -/
def PR (w : World) (s : Slc) (T : List E) : Prop := Row w s 60 1 (ptrs T)
section
variable {w w1 : World} {s : Slc} {T : List E} {W : Nat → Int} {c : Addr}
theorem PR.len (h : PR w s T) : s.len = T.length := by
  have := h.1
  rw [ptrs_len] at this
  omega
theorem PR.get (h : PR w s T) {i : Nat} {e : E} (hi : T[i]? = some e) : ∃ g, s.p = some ⟨g, 0, none⟩ ∧ w.cell? ⟨g, i, none⟩ = some (ptr e.1) :=
  Row.cell h (by unfold ptrs; rw [List.getElem?_map, hi]; rfl)
theorem PR.set (h : PR w s T) {i : Nat} (hi : i < T.length) (e : E) : ∃ g, s.p = some ⟨g, 0, none⟩ ∧ CanSt w ⟨g, i, none⟩ ∧ PR (w.setCell ⟨g, i, none⟩ (ptr e.1)) s (T.set i e) ∧ Ext s.own w (w.setCell ⟨g, i, none⟩ (ptr e.1)) := by
  have hlen := h.len
  rcases h.2 with rfl | ⟨g, cur, hp, hg, hle, hsz, htk⟩
  · simp only at hlen
    omega
  · have hlt : i < cur.size := by omega
    refine ⟨g, hp, hg.can hlt, ⟨by rw [ptrs_len, List.length_set, hlen, Nat.mul_one], .inr ⟨g, _, hp, hg.set i _, hle, by simpa using hsz, ?_⟩⟩, (Ext.refl _ w).set (.inl ⟨_, hp, rfl⟩) _⟩
    rw [Array.toList_setIfInBounds, List.take_set, htk]
    unfold ptrs
    rw [List.map_set]
/-- What the sort carries: the row, the closure's variable, the weights. -/
structure SS (w : World) (s : Slc) (T : List E) (c : Addr) (W : Nat → Int) : Prop where
  row : PR w s T
  clo : w.cell? c = some wfn
  wt : ∀ e ∈ T, w.cell? ⟨e.1, 0, none⟩ = some (.int .i64 (W e.1))
  ne : ∀ e ∈ T, ¬ s.own e.1
  nc : ¬ s.own c.block
  big : T.length ≤ 1000000
theorem SS.step {T' : List E} (h : SS w s T c W) (he : Ext s.own w w1) (hr : PR w1 s T') (hm : ∀ e ∈ T', e ∈ T) : SS w1 s T' c W := by
  have l1 := h.row.len
  have l2 := hr.len
  refine ⟨hr, ?_, fun e hx => ?_, fun e hx => h.ne e (hm e hx), h.nc, by have := h.big; omega⟩
  · rw [he.cell (cell_lt' h.clo) h.nc]; exact h.clo
  · have := h.wt e (hm e hx)
    rw [he.cell (cell_lt' this) (h.ne e (hm e hx))]
    exact this
theorem SS.still (h : SS w s T c W) (he : Ext (fun _ => False) w w1) : SS w1 s T c W :=
  h.step (he.mono fun _ _ e => e.elim) (h.row.keep he fun _ _ e => e) fun _ h => h
theorem SS.perm {T' : List E} (h : SS w s T c W) (he : Ext s.own w w1) (hr : PR w1 s T') (hm : T'.Perm T) : SS w1 s T' c W := h.step he hr fun e hx => hm.mem_iff.1 hx
attribute [local irreducible] Ld St Nw Nn Lt LdS
theorem c_compare (x y : Int) (w : World) : C50 x y w fun r w1 => (r < 0 ↔ x < y) ∧ w1 = w := by
  refine T50 _ _ _ _ ?_
  unfold S50
  have n : ∀ (z : Int) (w : World), C56 z w fun r w1 => r = false ∧ w1 = w := fun z w => T56 _ _ _ (by unfold S56; exact ⟨by simp, rfl⟩)
  refine (n x w).mono ?_
  rintro r w ⟨rfl, rfl⟩
  refine (n y w).mono ?_
  rintro r w ⟨rfl, rfl⟩
  refine Srt.Br.f rfl (Srt.Br.f rfl (Br.dec (fun q => ⟨by omega, rfl⟩) fun q => Br.dec (fun q2 => ⟨by omega, rfl⟩) fun q2 => ⟨by omega, rfl⟩))
theorem c_weight {b : Nat} {x : Int} (h : w.cell? ⟨b, 0, none⟩ = some (.int .i64 x)) : C44 (some ⟨b, 0, none⟩) w fun r w1 => r = x ∧ w1 = w := by
  refine T44 _ _ _ ?_
  unfold S44
  exact Nn.of (Ld.mk h ⟨rfl, rfl⟩)
theorem c_cmp {x y : E} (h : SS w s T c W) (hx : x ∈ T) (hy : y ∈ T) : C49 (some ⟨x.1, 0, none⟩) (some ⟨y.1, 0, none⟩) c w fun r w1 => (r < 0 ↔ W x.1 < W y.1) ∧ SS w1 s T c W ∧ Ext s.own w w1 := by
  have hd := h.still (Ext.refl _ w).drew
  refine T49 _ _ _ _ _ h.clo ((c_weight (hd.wt x hx)).mono ?_)
  rintro r w1 ⟨rfl, rfl⟩
  refine ⟨hd.clo, (c_weight (hd.wt y hy)).mono ?_⟩
  rintro r w1 ⟨rfl, rfl⟩
  refine ⟨hd.clo, (c_compare _ _ _).mono ?_⟩
  rintro r w1 ⟨hr, rfl⟩
  exact ⟨hr, hd, (Ext.refl _ w).drew⟩
/-- Two places of the row are exchanged: first a is written, then b. -/
theorem SS.swap {i j : Nat} {x y : E} {K : World → Prop} (h : SS w s T c W) (hi : T[i]? = some x) (hj : T[j]? = some y) (hij : i ≠ j)
    (k : ∀ w1, SS w1 s ((T.set i y).set j x) c W → Ext s.own w w1 → K w1) : ∃ g, s.p = some ⟨g, 0, none⟩ ∧ w.cell? ⟨g, i, none⟩ = some (ptr x.1) ∧ w.cell? ⟨g, j, none⟩ = some (ptr y.1) ∧ St w ⟨g, i, none⟩ (ptr y.1) fun w1 => St w1 ⟨g, j, none⟩ (ptr x.1) K := by
  have li := (List.getElem?_eq_some_iff.1 hi).1
  have lj := (List.getElem?_eq_some_iff.1 hj).1
  obtain ⟨g, hg, h1⟩ := h.row.get hi
  obtain ⟨g', hg', h2⟩ := h.row.get hj
  rw [hg] at hg'
  cases hg'
  refine ⟨g, hg, h1, h2, ?_⟩
  obtain ⟨g', hg', c1, p1, e1⟩ := h.row.set li y
  rw [hg] at hg'
  cases hg'
  obtain ⟨g', hg', c2, p2, e2⟩ := p1.set (i := j) (by rw [List.length_set]; exact lj) x
  rw [hg] at hg'
  cases hg'
  have mx : x ∈ T := List.mem_of_getElem? hi
  have my : y ∈ T := List.mem_of_getElem? hj
  have E := e1.tr e2
  unfold St
  refine ⟨c1, c2, k _ (h.step E p2 fun e he => ?_) E⟩
  rcases List.mem_or_eq_of_mem_set he with he | rfl
  · rcases List.mem_or_eq_of_mem_set he with he | rfl
    · exact he
    · exact my
  · exact mx
/-- Neighbours are exchanged. -/
theorem swap_adj {α : Type} {X Z : List α} {a b : α} {i : Nat} (h : X.length = i) : ((X ++ a :: b :: Z).set i b).set (i + 1) a = X ++ b :: a :: Z := by
  rw [set_mid h, show X ++ b :: b :: Z = (X ++ [b]) ++ b :: Z by simp, set_mid (by simp [h])]
  simp
theorem swap_adj' {α : Type} {X Z : List α} {a b : α} {i : Nat} (h : X.length = i) : ((X ++ a :: b :: Z).set (i + 1) a).set i b = X ++ b :: a :: Z := by
  rw [show X ++ a :: b :: Z = (X ++ [a]) ++ b :: Z by simp, set_mid (by simp [h]), show X ++ [a] ++ a :: Z = X ++ a :: a :: Z by simp, set_mid h]
theorem c_ins {P M Q : List E} (h : SS w s (P ++ M ++ Q) c W) (hT : M.Pairwise fun x y => x.2 < y.2) {a b : Nat} (ha : P.length = a) (hb : a + M.length = b) :
    C58 s (a : Int) (b : Int) (.func (.func 49) #[] #[.pointer (some c)]) w fun w1 => Ext s.own w w1 ∧ ∃ M' : List E, M'.Perm M ∧ So W M' ∧ SS w1 s (P ++ M' ++ Q) c W := by
  refine T58_F49 _ _ _ _ _ _ ?_
  unfold S58_F49
  have hbig := h.big
  simp only [List.length_append] at hbig
  rw [i64_id (by omega)]
  refine ⟨fun n st w1 => ∃ (k : Nat) (M1 : List E), st = (a : Int) + (k : Int) ∧ 1 ≤ k ∧ n = M.length + 1 - k ∧ M1.Perm (M.take k) ∧ So W M1 ∧ SS w1 s (P ++ M1 ++ M.drop k ++ Q) c W ∧ Ext s.own w w1, M.length, ⟨1, M.take 1, rfl, Nat.le_refl _, by omega, .refl _, ?_, ?_, Ext.refl _ _⟩, ?_⟩
  · match M with
    | [] => exact List.Pairwise.nil
    | x :: r => exact List.pairwise_singleton _ _
  · rw [List.append_assoc P, List.take_append_drop]
    exact h
  rintro n st w1 ⟨k, M1, rfl, hk, rfl, hp, hs, H1, e1⟩
  unfold S58_F49L2
  refine Br.dec (fun q => ?_) fun q => ?_
  · have hkM : k < M.length := by omega
    have lM1 : M1.length = k := by rw [hp.length_eq, List.length_take]; omega
    have hdrop : M.drop k = M[k] :: M.drop (k + 1) := List.drop_eq_getElem_cons hkM
    rw [hdrop] at H1
    have htag : ∀ y ∈ M1, y.2 < M[k].2 := fun y hy => by
      have hy := hp.mem_iff.1 hy
      have hT2 := hT
      rw [← List.take_append_drop k M] at hT2
      exact (List.pairwise_append.1 hT2).2.2 y hy M[k] (by rw [hdrop]; exact List.mem_cons_self)
    generalize hx : M[k] = x at *
    refine ⟨fun n st w2 => ∃ (A B : List E), M1 = A ++ B ∧ st = (a : Int) + (A.length : Int) ∧ n = A.length ∧ (∀ y ∈ B, lt W x y) ∧ SS w2 s (P ++ A ++ x :: B ++ M.drop (k + 1) ++ Q) c W ∧ Ext s.own w w2, k, ⟨M1, [], by simp, by omega, lM1.symm, fun y hy => (by cases hy), by simpa using H1, e1⟩, ?_⟩
    rintro n st w2 ⟨A, B, rfl, rfl, rfl, hB, H2, e2⟩
    unfold S58_F49L1
    have hslen := H2.row.len
    simp only [List.length_append, List.length_cons, List.length_drop] at hslen lM1
    have fin : ∀ w3, SS w3 s (P ++ A ++ x :: B ++ M.drop (k + 1) ++ Q) c W → Ext s.own w w3 → (∀ y ∈ A, lt W y x) → ∃ n', n' < M.length + 1 - k ∧ ∃ (k' : Nat) (M1' : List E), IntKind.i64.wrap ((a : Int) + (k : Int) + 1) = (a : Int) + (k' : Int) ∧ 1 ≤ k' ∧ n' = M.length + 1 - k' ∧ M1'.Perm (M.take k') ∧ So W M1' ∧ SS w3 s (P ++ M1' ++ M.drop k' ++ Q) c W ∧ Ext s.own w w3 := fun w3 H3 e3 hA => by
      refine ⟨M.length + 1 - (k + 1), by omega, k + 1, A ++ x :: B, by rw [i64_id (by omega)]; omega, by omega, rfl, ?_, so_put hs hA hB, by simpa using H3, e3⟩
      have ht : M.take (k + 1) = M.take k ++ [x] := by rw [List.take_add_one, List.getElem?_eq_getElem hkM, hx]; rfl
      rw [ht]
      exact (List.perm_middle.trans (List.Perm.cons x hp)).trans (List.perm_append_singleton x _).symm
    refine Br.dec (fun q2 => ?_) fun q2 => ?_
    · obtain ⟨A', y, rfl⟩ : ∃ A' y, A = A' ++ [y] := by
        refine ⟨A.dropLast, A.getLast (by intro e; rw [e] at q2; simp at q2), (List.dropLast_concat_getLast _).symm⟩
      simp only [List.length_append, List.length_singleton] at hslen lM1 q2 ⊢
      have gx : (P ++ (A' ++ [y]) ++ x :: B ++ M.drop (k + 1) ++ Q)[a + A'.length + 1]? = some x := by
        rw [List.append_assoc, List.append_assoc, List.append_assoc]
        rw [show P ++ ((A' ++ [y]) ++ (x :: B ++ (M.drop (k + 1) ++ Q))) = (P ++ (A' ++ [y])) ++ x :: (B ++ (M.drop (k + 1) ++ Q)) by simp]
        exact get_mid (by simp [ha]; omega)
      have gy : (P ++ (A' ++ [y]) ++ x :: B ++ M.drop (k + 1) ++ Q)[a + A'.length]? = some y := by
        rw [show P ++ (A' ++ [y]) ++ x :: B ++ M.drop (k + 1) ++ Q = (P ++ A') ++ y :: (x :: B ++ M.drop (k + 1) ++ Q) by simp]
        exact get_mid (by simp [ha])
      have H2d := H2.still (Ext.refl _ w2).drew
      obtain ⟨g, hg, cx⟩ := H2d.row.get gx
      obtain ⟨g', hg', cy⟩ := H2d.row.get gy
      rw [hg] at hg'
      cases hg'
      have i1 : (a : Int) + ((A'.length + 1 : Nat) : Int) = ((a + A'.length + 1 : Nat) : Int) := by omega
      have i2 : IntKind.i64.wrap (((a + A'.length + 1 : Nat) : Int) - 1) = ((a + A'.length : Nat) : Int) := by rw [i64_id (by omega)]; omega
      rw [i1, i2, hg]
      refine ⟨by omega, by omega, Nn.of ?_⟩
      simp only [add_lit, Int.toNat_natCast, Nat.mul_one, Nat.zero_add]
      refine Ld.mk cx ⟨by omega, by omega, Nn.of ?_⟩
      simp only [add_lit, Int.toNat_natCast, Nat.mul_one, Nat.zero_add]
      refine Ld.mk cy ?_
      refine (c_cmp H2d (List.mem_of_getElem? gx) (List.mem_of_getElem? gy)).mono ?_
      rintro r w3 ⟨hr, H3, e3⟩
      have E3 := e2.tr ((Ext.refl _ w2).drew.tr e3)
      refine Br.dec (fun q3 => ?_) fun q3 => ?_
      · have hlt := hr.1 q3
        obtain ⟨g', hg', c1, c2, hst⟩ := (H3.still (Ext.refl _ w3).drew).swap gx gy (by omega) (K := fun w1 => ∃ n', n' < A'.length + 1 ∧ ∃ (A B_1 : List E), A' ++ [y] ++ B = A ++ B_1 ∧ ((a + A'.length : Nat) : Int) = (a : Int) + (A.length : Int) ∧ n' = A.length ∧ (∀ y ∈ B_1, lt W x y) ∧ SS w1 s (P ++ A ++ x :: B_1 ++ M.drop (k + 1) ++ Q) c W ∧ Ext s.own w w1) fun w4 H4 e4 => by
          refine ⟨A'.length, by omega, A', y :: B, by simp, by omega, rfl, fun z hz => ?_, ?_, E3.tr ((Ext.refl _ w3).drew.tr e4)⟩
          · rcases List.mem_cons.1 hz with rfl | hz
            · exact .inl hlt
            · exact hB z hz
          · have e : ((P ++ (A' ++ [y]) ++ x :: B ++ M.drop (k + 1) ++ Q).set (a + A'.length + 1) y).set (a + A'.length) x = P ++ A' ++ x :: y :: B ++ M.drop (k + 1) ++ Q := by
              rw [show P ++ (A' ++ [y]) ++ x :: B ++ M.drop (k + 1) ++ Q = (P ++ A') ++ y :: x :: (B ++ M.drop (k + 1) ++ Q) by simp]
              rw [swap_adj' (by simp [ha])]
              simp
            rw [e] at H4
            exact H4
        rw [hg] at hg'
        cases hg'
        refine ⟨fun w' => w' = w3.drew, rfl, by omega, by omega, Nn.of ?_⟩
        simp only [add_lit, Int.toNat_natCast, Nat.mul_one, Nat.zero_add]
        refine ldS_mk (x := some ⟨y.1, 0, none⟩) (fun w' e => e ▸ c2) ⟨by omega, by omega, Nn.of ?_⟩
        simp only [add_lit, Int.toNat_natCast, Nat.mul_one, Nat.zero_add]
        refine ldS_mk (x := some ⟨x.1, 0, none⟩) (fun w' e => e ▸ c1) ⟨by omega, by omega, Nn.of ?_⟩
        simp only [add_lit, Int.toNat_natCast, Nat.mul_one, Nat.zero_add]
        have hst' := hst
        unfold St at hst' ⊢
        exact ⟨hst'.1, by omega, by omega, Nn.of (by simp only [add_lit, Nat.zero_add]; exact hst'.2)⟩
      · refine fin w3 H3 E3 fun z hz => ?_
        have hle : W y.1 ≤ W x.1 := by
          have := fun h => q3 (hr.2 h)
          omega
        have hyx : lt W y x := lt_of hle (htag y (by simp))
        rcases List.mem_append.1 hz with hz | hz
        · have hsA := (so_app.1 (so_app.1 hs).1).2.2
          exact lt_trans (hsA z hz y (by simp)) hyx
        · rw [List.mem_singleton.1 hz]; exact hyx
    · have hA0 : A = [] := List.eq_nil_of_length_eq_zero (by omega)
      exact fin _ (H2.still (Ext.refl _ w2).drew) (e2.tr (Ext.refl _ w2).drew) fun z hz => by rw [hA0] at hz; cases hz
  · have hk2 : M.length ≤ k := by omega
    refine ⟨e1, M1, ?_, hs, ?_⟩
    · rw [List.take_of_length_le hk2] at hp
      exact hp
    · rw [List.drop_of_length_le hk2] at H1
      simpa using H1
end
end Srt
end Go.Proofs.Ytapgacggllbhiaa
