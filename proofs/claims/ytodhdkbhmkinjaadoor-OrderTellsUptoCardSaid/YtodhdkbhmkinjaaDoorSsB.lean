/- A stable sort of signs: the row, the comparison, the insertion sort. Conditions: sizes. -/
import Derived.Test.YtodhdkbhmkinjaaDoorSoA
import Derived.Test.YtodhdkbhmkinjaaDoorOsB
namespace Go.Proofs.YtodhdkbhmkinjaaDoor
namespace Ssr
open Sh Srt
open Rdg (Sg scells st scells_len)
set_option linter.unusedVariables false
set_option linter.unusedSimpArgs false
set_option maxRecDepth 4000
set_option maxHeartbeats 2000000
def el (c : List Sg) (e : E) : Sg := c.getD e.1 default
def rw10 (c : List Sg) (T : List E) : List Value := T.flatMap fun e => scells (el c e)
theorem rw10_len (c : List Sg) (T : List E) : (rw10 c T).length = T.length * 10 := Rdg.flat_len (fun e => scells_len (el c e)) T
theorem rw10_app (c : List Sg) (A B : List E) : rw10 c (A ++ B) = rw10 c A ++ rw10 c B := by unfold rw10; rw [List.flatMap_append]
theorem rw10_cons (c : List Sg) (e : E) (B : List E) : rw10 c (e :: B) = scells (el c e) ++ rw10 c B := by unfold rw10; rw [List.flatMap_cons]
/-- A row of signs. -/
def PR (w : World) (s : Slc) (c : List Sg) (T : List E) : Prop := Row w s 61 10 (rw10 c T)
section
variable {w w1 : World} {s : Slc} {T : List E} {W : Nat → Int} {c : List Sg}
theorem PR.len (h : PR w s c T) : s.len = T.length := by
  have := h.1
  rw [rw10_len] at this
  omega
theorem PR.get (h : PR w s c T) {i : Nat} {e : E} (hi : T[i]? = some e) : ∃ g, s.p = some ⟨g, 0, none⟩ ∧ ∀ j v, (scells (el c e))[j]? = some v → w.cell? ⟨g, i * 10 + j, none⟩ = some v := by
  obtain ⟨a, ha, hc⟩ := Rdg.VRow.elem (f := fun e => scells (el c e)) (fun e => scells_len _) (Row.view h) hi (by decide)
  rcases h.2 with rfl | ⟨g, cur, hp, hg, hle, hsz, htk⟩
  · cases ha
  · rw [hp] at ha
    cases ha
    refine ⟨g, hp, fun j v hj => ?_⟩
    have := hc j v hj
    rw [add_lit, Nat.zero_add] at this
    exact this
/-- An element is written. -/
theorem PR.put {i : Nat} {y : E} {K : World → Prop} (h : PR w s c T) (hi : i < T.length) (k : ∀ w2, PR w2 s c (T.set i y) → Ext s.own w w2 → K w2) : ∃ g, s.p = some ⟨g, 0, none⟩ ∧ StT ⟨g, i * 10, none⟩ 0 LiA60 (st (el c y)) w K := by
  have hlen := h.len
  rcases h.2 with rfl | ⟨g, cur, hp, hg, hle, hsz, htk⟩
  · simp only at hlen
    omega
  · refine ⟨g, hp, ?_⟩
    have hT : T = T.take i ++ T[i] :: T.drop (i + 1) := by rw [← List.drop_eq_getElem_cons hi, List.take_append_drop]
    have hS : T.set i y = T.take i ++ y :: T.drop (i + 1) := by rw [List.set_eq_take_append_cons_drop, if_pos hi]
    have hcur : cur.toList = rw10 c (T.take i) ++ (scells (el c T[i]) ++ (rw10 c (T.drop (i + 1)) ++ cur.toList.drop (s.len * 10))) := by
      conv => lhs; rw [← List.take_append_drop (s.len * 10) cur.toList, htk]
      conv => lhs; rw [hT]
      rw [rw10_app, rw10_cons]
      simp only [List.append_assoc]
    have hb : Blk w g (rw10 c (T.take i) ++ (scells (el c T[i]) ++ (rw10 c (T.drop (i + 1)) ++ cur.toList.drop (s.len * 10)))).toArray 61 := by
      rw [← hcur]
      exact hg
    have htl : (T.take i).length = i := by rw [List.length_take]; omega
    refine StT.blk (ts := LiA60) (x := st (el c y)) hb (by rw [rw10_len, htl]) rfl fun w2 hb2 e2 => ?_
    refine k w2 ⟨by rw [rw10_len, List.length_set, hlen], .inr ⟨g, _, hp, hb2, hle, ?_, ?_⟩⟩ (e2.mono fun j _ e => ⟨_, hp, e.symm⟩)
    · have := congrArg List.length hcur
      rw [Array.length_toList] at this
      rw [List.size_toArray, ← hsz, this]
      simp only [List.length_append]
      rfl
    · show List.take (s.len * 10) (rw10 c (T.take i) ++ (scells (el c y) ++ (rw10 c (T.drop (i + 1)) ++ cur.toList.drop (s.len * 10)))) = _
      rw [hS, rw10_app, rw10_cons]
      have ea : rw10 c (T.take i) ++ (scells (el c y) ++ (rw10 c (T.drop (i + 1)) ++ cur.toList.drop (s.len * 10))) = (rw10 c (T.take i) ++ (scells (el c y) ++ rw10 c (T.drop (i + 1)))) ++ cur.toList.drop (s.len * 10) := by simp only [List.append_assoc]
      rw [ea]
      refine List.take_left' ?_
      simp only [List.length_append, rw10_len, scells_len, List.length_take, List.length_drop]
      omega
theorem ldE {g i : Nat} {x : Sg} {K : TyA60 → Prop} (h : ∀ j v, (scells x)[j]? = some v → w.cell? ⟨g, i * 10 + j, none⟩ = some v) (k : K (st x)) : LdT w ⟨g, i * 10, none⟩ 0 LiA60 K := LdT.mk LiA60 0 (st x) K h k
theorem ldSE {S : World → Prop} {g i : Nat} {x : Sg} {K : TyA60 → Prop} (h : ∀ w, S w → ∀ j v, (scells x)[j]? = some v → w.cell? ⟨g, i * 10 + j, none⟩ = some v) (k : K (st x)) : LdST S ⟨g, i * 10, none⟩ 0 LiA60 K := LdST.mk LiA60 0 (st x) K h k
/-- What the sort carries: the row, the weights. -/
structure SS (w : World) (s : Slc) (T : List E) (c : List Sg) (W : Nat → Int) : Prop where
  row : PR w s c T
  wt : ∀ e ∈ T, W e.1 = -(el c e).fy
  big : T.length ≤ 2000000
theorem SS.step {T' : List E} (h : SS w s T c W) (he : Ext s.own w w1) (hr : PR w1 s c T') (hm : ∀ e ∈ T', e ∈ T) : SS w1 s T' c W := by
  have l1 := h.row.len
  have l2 := hr.len
  exact ⟨hr, fun e hx => h.wt e (hm e hx), by have := h.big; omega⟩
theorem SS.still (h : SS w s T c W) (he : Ext (fun _ => False) w w1) : SS w1 s T c W :=
  h.step (he.mono fun _ _ e => e.elim) (Row.keep h.row he fun _ _ e => e) fun _ h => h
theorem SS.perm {T' : List E} (h : SS w s T c W) (he : Ext s.own w w1) (hr : PR w1 s c T') (hm : T'.Perm T) : SS w1 s T' c W := h.step he hr fun e hx => hm.mem_iff.1 hx
attribute [local irreducible] Ld St Nw Nn Lt LdS
theorem c_cmp {x y : E} (h : SS w s T c W) (hx : x ∈ T) (hy : y ∈ T) : C40 (st (el c x)) (st (el c y)) w fun r w1 => (r < 0 ↔ W x.1 < W y.1) ∧ SS w1 s T c W ∧ Ext s.own w w1 := by
  refine (Rdg.c_cmpY _ _ w).mono ?_
  rintro r w1 ⟨hr, e1⟩
  refine ⟨?_, h.still e1, e1.mono fun _ _ e => e.elim⟩
  rw [hr, h.wt x hx, h.wt y hy]
  omega
/-- A comparison, as the program does it. -/
theorem SS.step_cmp {i j : Nat} {x y : E} {ii jj : Int} {K : Int → World → Prop} (h : SS w s T c W) (gi : T[i]? = some x) (gj : T[j]? = some y) (hi : ii = (i : Int)) (hj : jj = (j : Int))
    (k : ∀ r w1, (r < 0 ↔ W x.1 < W y.1) → SS w1 s T c W → Ext s.own w w1 → K r w1) :
    0 ≤ ii ∧ ii < (s.len : Nat) ∧ Nn s.p fun a => LdT w.drew (a.add (ii.toNat * 10)) 0 LiA60 fun (x1 : TyA60) => 0 ≤ jj ∧ jj < (s.len : Nat) ∧ Nn s.p fun a => LdT w.drew (a.add (jj.toNat * 10)) 0 LiA60 fun (x2 : TyA60) =>
      C40 x1 x2 w.drew fun r w2 => K r w2 := by
  subst hi hj
  have li := (List.getElem?_eq_some_iff.1 gi).1
  have lj := (List.getElem?_eq_some_iff.1 gj).1
  have hl := h.row.len
  have hd := h.still (Ext.refl _ w).drew
  obtain ⟨g, hg, c1⟩ := hd.row.get gi
  obtain ⟨g', hg', c2⟩ := hd.row.get gj
  rw [hg] at hg'
  cases hg'
  rw [hg]
  refine ⟨by omega, by omega, Nn.of ?_⟩
  simp only [add_lit, Int.toNat_natCast, Nat.zero_add]
  refine ldE c1 ⟨by omega, by omega, Nn.of ?_⟩
  simp only [add_lit, Int.toNat_natCast, Nat.zero_add]
  refine ldE c2 ((c_cmp hd (List.mem_of_getElem? gi) (List.mem_of_getElem? gj)).mono ?_)
  rintro r w2 ⟨hr, H2, e2⟩
  exact k r w2 hr H2 ((Ext.refl _ w).drew.tr e2)
/-- An exchange, as the program does it. -/
theorem SS.step_swap {i j : Nat} {x y : E} {ii jj : Int} {K : World → Prop} (h : SS w s T c W) (gi : T[i]? = some x) (gj : T[j]? = some y) (hij : i ≠ j) (hi : ii = (i : Int)) (hj : jj = (j : Int))
    (k : ∀ w1, SS w1 s ((T.set i y).set j x) c W → Ext s.own w w1 → K w1) :
    ∃ vS : World → Prop, vS w.drew ∧ 0 ≤ jj ∧ jj < (s.len : Nat) ∧ Nn s.p fun a => LdST vS (a.add (jj.toNat * 10)) 0 LiA60 fun (x1 : TyA60) => 0 ≤ ii ∧ ii < (s.len : Nat) ∧ Nn s.p fun a => LdST vS (a.add (ii.toNat * 10)) 0 LiA60 fun (x2 : TyA60) =>
      0 ≤ ii ∧ ii < (s.len : Nat) ∧ Nn s.p fun a => StT (a.add (ii.toNat * 10)) 0 LiA60 x1 w.drew fun w2 => 0 ≤ jj ∧ jj < (s.len : Nat) ∧ Nn s.p fun a => StT (a.add (jj.toNat * 10)) 0 LiA60 x2 w2 K := by
  subst hi hj
  have li := (List.getElem?_eq_some_iff.1 gi).1
  have lj := (List.getElem?_eq_some_iff.1 gj).1
  have hl := h.row.len
  have hd := h.still (Ext.refl _ w).drew
  obtain ⟨g, hg, c1⟩ := hd.row.get gi
  obtain ⟨g', hg', c2⟩ := hd.row.get gj
  rw [hg] at hg'
  cases hg'
  have mx : x ∈ T := List.mem_of_getElem? gi
  have my : y ∈ T := List.mem_of_getElem? gj
  rw [hg]
  refine ⟨fun w' => w' = w.drew, rfl, by omega, by omega, Nn.of ?_⟩
  simp only [add_lit, Int.toNat_natCast, Nat.zero_add]
  refine ldSE (fun w' e j v hv => by rw [e]; exact c2 j v hv) ⟨by omega, by omega, Nn.of ?_⟩
  simp only [add_lit, Int.toNat_natCast, Nat.zero_add]
  refine ldSE (fun w' e j v hv => by rw [e]; exact c1 j v hv) ⟨by omega, by omega, Nn.of ?_⟩
  simp only [add_lit, Int.toNat_natCast, Nat.zero_add]
  obtain ⟨g', hg', hst⟩ := hd.row.put (y := y) (K := fun w2 => 0 ≤ ((j : Nat) : Int) ∧ ((j : Nat) : Int) < (s.len : Nat) ∧ Nn (some (⟨g, 0, none⟩ : Addr)) fun a => StT (a.add (((j : Nat) : Int).toNat * 10)) 0 LiA60 (st (el c x)) w2 K) li fun w2 p2 e2 => by
    refine ⟨by omega, by omega, Nn.of ?_⟩
    simp only [add_lit, Int.toNat_natCast, Nat.zero_add]
    obtain ⟨g', hg', hst⟩ := p2.put (y := x) (K := K) (by rw [List.length_set]; exact lj) fun w3 p3 e3 => by
      refine k w3 (hd.step (e2.tr e3) p3 fun e he => ?_) ((Ext.refl _ w).drew.tr (e2.tr e3))
      rcases List.mem_or_eq_of_mem_set he with he | rfl
      · rcases List.mem_or_eq_of_mem_set he with he | rfl
        · exact he
        · exact my
      · exact mx
    rw [hg] at hg'
    cases hg'
    exact hst
  rw [hg] at hg'
  cases hg'
  exact hst
/-- Neighbours are exchanged. -/
theorem swap_adj {α : Type} {X Z : List α} {a b : α} {i : Nat} (h : X.length = i) : ((X ++ a :: b :: Z).set i b).set (i + 1) a = X ++ b :: a :: Z := by
  rw [set_mid h, show X ++ b :: b :: Z = (X ++ [b]) ++ b :: Z by simp, set_mid (by simp [h])]
  simp
theorem swap_adj' {α : Type} {X Z : List α} {a b : α} {i : Nat} (h : X.length = i) : ((X ++ a :: b :: Z).set (i + 1) a).set i b = X ++ b :: a :: Z := by
  rw [show X ++ a :: b :: Z = (X ++ [a]) ++ b :: Z by simp, set_mid (by simp [h]), show X ++ [a] ++ a :: Z = X ++ a :: a :: Z by simp, set_mid h]
theorem c_ins {P M Q : List E} (h : SS w s (P ++ M ++ Q) c W) (hT : M.Pairwise fun x y => x.2 < y.2) {a b : Nat} (ha : P.length = a) (hb : a + M.length = b) :
    C60 s (a : Int) (b : Int) (.func (.func 40) #[] #[]) w fun w1 => Ext s.own w w1 ∧ ∃ M' : List E, M'.Perm M ∧ So W M' ∧ SS w1 s (P ++ M' ++ Q) c W := by
  refine T60_F40 _ _ _ _ _ ?_
  unfold S60_F40
  have hbig := h.big
  simp only [List.length_append] at hbig
  rw [i64_id (by omega)]
  refine ⟨fun n st w1 => ∃ (k : Nat) (M1 : List E), st = (a : Int) + (k : Int) ∧ 1 ≤ k ∧ n = M.length + 1 - k ∧ M1.Perm (M.take k) ∧ So W M1 ∧ SS w1 s (P ++ M1 ++ M.drop k ++ Q) c W ∧ Ext s.own w w1, M.length, ⟨1, M.take 1, rfl, Nat.le_refl _, by omega, .refl _, ?_, ?_, Ext.refl _ _⟩, ?_⟩
  · match M with
    | [] => exact List.Pairwise.nil
    | x :: r => exact List.pairwise_singleton _ _
  · rw [List.append_assoc P, List.take_append_drop]
    exact h
  rintro n st w1 ⟨k, M1, rfl, hk, rfl, hp, hs, H1, e1⟩
  unfold S60_F40L2
  refine Br.dec (fun q => ?_) fun q => ?_
  · have hkM : k < M.length := by omega
    have lM1 : M1.length = k := by rw [hp.length_eq, List.length_take]; omega
    have hdrop : M.drop k = M[k] :: M.drop (k + 1) := List.drop_eq_getElem_cons hkM
    rw [hdrop] at H1
    have htag : ∀ y ∈ M1, y.2 < M[k].2 := fun y hy => by
      have hy := hp.mem_iff.1 hy
      have hT2 := hT
      rw [← List.take_append_drop k M] at hT2
      exact (List.pairwise_append.1 hT2).2.2 y hy M[k] (by rw [hdrop]; exact List.mem_cons_self)
    generalize hx : M[k] = x at *
    refine ⟨fun n st w2 => ∃ (A B : List E), M1 = A ++ B ∧ st = (a : Int) + (A.length : Int) ∧ n = A.length ∧ (∀ y ∈ B, lt W x y) ∧ SS w2 s (P ++ A ++ x :: B ++ M.drop (k + 1) ++ Q) c W ∧ Ext s.own w w2, k, ⟨M1, [], by simp, by omega, lM1.symm, fun y hy => (by cases hy), by simpa using H1, e1⟩, ?_⟩
    rintro n st w2 ⟨A, B, rfl, rfl, rfl, hB, H2, e2⟩
    unfold S60_F40L1
    have hslen := H2.row.len
    simp only [List.length_append, List.length_cons, List.length_drop] at hslen lM1
    have fin : ∀ w3, SS w3 s (P ++ A ++ x :: B ++ M.drop (k + 1) ++ Q) c W → Ext s.own w w3 → (∀ y ∈ A, lt W y x) → ∃ n', n' < M.length + 1 - k ∧ ∃ (k' : Nat) (M1' : List E), IntKind.i64.wrap ((a : Int) + (k : Int) + 1) = (a : Int) + (k' : Int) ∧ 1 ≤ k' ∧ n' = M.length + 1 - k' ∧ M1'.Perm (M.take k') ∧ So W M1' ∧ SS w3 s (P ++ M1' ++ M.drop k' ++ Q) c W ∧ Ext s.own w w3 := fun w3 H3 e3 hA => by
      refine ⟨M.length + 1 - (k + 1), by omega, k + 1, A ++ x :: B, by rw [i64_id (by omega)]; omega, by omega, rfl, ?_, so_put hs hA hB, by simpa using H3, e3⟩
      have ht : M.take (k + 1) = M.take k ++ [x] := by rw [List.take_add_one, List.getElem?_eq_getElem hkM, hx]; rfl
      rw [ht]
      exact (List.perm_middle.trans (List.Perm.cons x hp)).trans (List.perm_append_singleton x _).symm
    refine Br.dec (fun q2 => ?_) fun q2 => ?_
    · obtain ⟨A', y, rfl⟩ : ∃ A' y, A = A' ++ [y] := by
        refine ⟨A.dropLast, A.getLast (by intro e; rw [e] at q2; simp at q2), (List.dropLast_concat_getLast _).symm⟩
      simp only [List.length_append, List.length_singleton] at hslen lM1 q2 ⊢
      have gx : (P ++ (A' ++ [y]) ++ x :: B ++ M.drop (k + 1) ++ Q)[a + A'.length + 1]? = some x := by
        rw [List.append_assoc, List.append_assoc, List.append_assoc]
        rw [show P ++ ((A' ++ [y]) ++ (x :: B ++ (M.drop (k + 1) ++ Q))) = (P ++ (A' ++ [y])) ++ x :: (B ++ (M.drop (k + 1) ++ Q)) by simp]
        exact get_mid (by simp [ha]; omega)
      have gy : (P ++ (A' ++ [y]) ++ x :: B ++ M.drop (k + 1) ++ Q)[a + A'.length]? = some y := by
        rw [show P ++ (A' ++ [y]) ++ x :: B ++ M.drop (k + 1) ++ Q = (P ++ A') ++ y :: (x :: B ++ M.drop (k + 1) ++ Q) by simp]
        exact get_mid (by simp [ha])
      have i1 : (a : Int) + ((A'.length + 1 : Nat) : Int) = ((a + A'.length + 1 : Nat) : Int) := by omega
      have i2 : IntKind.i64.wrap (((a + A'.length + 1 : Nat) : Int) - 1) = ((a + A'.length : Nat) : Int) := by rw [i64_id (by omega)]; omega
      rw [i1, i2]
      refine H2.step_cmp gx gy rfl rfl fun r w3 hr H3 e3 => ?_
      have E3 := e2.tr e3
      refine Br.dec (fun q3 => ?_) fun q3 => ?_
      · have hlt := hr.1 q3
        refine H3.step_swap (i := a + A'.length + 1) (j := a + A'.length) gx gy (by omega) rfl rfl fun w4 H4 e4 => ?_
        refine ⟨A'.length, by omega, A', y :: B, by simp, by omega, rfl, fun z hz => ?_, ?_, E3.tr e4⟩
        · rcases List.mem_cons.1 hz with rfl | hz
          · exact .inl hlt
          · exact hB z hz
        · have e : ((P ++ (A' ++ [y]) ++ x :: B ++ M.drop (k + 1) ++ Q).set (a + A'.length + 1) y).set (a + A'.length) x = P ++ A' ++ x :: y :: B ++ M.drop (k + 1) ++ Q := by
            rw [show P ++ (A' ++ [y]) ++ x :: B ++ M.drop (k + 1) ++ Q = (P ++ A') ++ y :: x :: (B ++ M.drop (k + 1) ++ Q) by simp]
            rw [swap_adj' (by simp [ha])]
            simp
          rw [e] at H4
          exact H4
      · refine fin w3 H3 E3 fun z hz => ?_
        have hle : W y.1 ≤ W x.1 := by
          have := fun h => q3 (hr.2 h)
          omega
        have hyx : lt W y x := lt_of hle (htag y (by simp))
        rcases List.mem_append.1 hz with hz | hz
        · have hsA := (so_app.1 (so_app.1 hs).1).2.2
          exact lt_trans (hsA z hz y (by simp)) hyx
        · rw [List.mem_singleton.1 hz]; exact hyx
    · have hA0 : A = [] := List.eq_nil_of_length_eq_zero (by omega)
      exact fin _ (H2.still (Ext.refl _ w2).drew) (e2.tr (Ext.refl _ w2).drew) fun z hz => by rw [hA0] at hz; cases hz
  · have hk2 : M.length ≤ k := by omega
    refine ⟨e1, M1, ?_, hs, ?_⟩
    · rw [List.take_of_length_le hk2] at hp
      exact hp
    · rw [List.drop_of_length_le hk2] at H1
      simpa using H1
end
end Ssr
end Go.Proofs.YtodhdkbhmkinjaaDoor
