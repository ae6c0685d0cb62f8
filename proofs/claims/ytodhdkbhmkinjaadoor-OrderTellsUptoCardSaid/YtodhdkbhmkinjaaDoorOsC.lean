/- Reading order: the signs of all glyphs, sorted by Y. Conditions: sizes. -/
import Derived.Test.YtodhdkbhmkinjaaDoorSsX
namespace Go.Proofs.YtodhdkbhmkinjaaDoor
namespace Rdg
open Sh
set_option linter.unusedVariables false
set_option linter.unusedSimpArgs false
set_option maxRecDepth 4000
set_option maxHeartbeats 2000000
theorem LdT.any {w : World} {a : Addr} : ∀ (ts : List Ty1) (i : Nat) (x : Sig ts) (K : Sig ts → Prop), (∀ j v, (Sig.cells ts x)[j]? = some v → w.cell? (a.add (i + j)) = some v) → K x → LdT w a i ts K
  | [], _, _, _, _, k => k
  | [t], i, x, K, h, k => Ld.mk (x := x) (h 0 (t.v x) rfl) k
  | t :: u :: r, i, x, K, h, k => Ld.mk (x := x.1) (h 0 (t.v x.1) rfl) (LdT.any (u :: r) (i + 1) x.2 (fun y => K (x.1, y)) (fun j v hj => by
      have := h (j + 1) v hj
      rw [show i + 1 + j = i + (j + 1) by omega]
      exact this) k)
/-- The signs of the glyphs that have text. -/
def allN : Nat → List Sg → List Sg
  | _, [] => []
  | i, g :: r => (if g.s.size = 0 then [] else [clampS g i]) ++ allN (i + 1) r
def allF (L : List Sg) : List Sg := allN 0 L
theorem allN_cons (i : Nat) (g : Sg) (r : List Sg) : allN i (g :: r) = (if g.s.size = 0 then [] else [clampS g i]) ++ allN (i + 1) r := rfl
theorem allN_app : ∀ (i : Nat) (l m : List Sg), allN i (l ++ m) = allN i l ++ allN (i + l.length) m
  | i, [], m => by simp [allN]
  | i, g :: l, m => by
    rw [List.cons_append, allN_cons, allN_cons, allN_app, List.append_assoc, List.length_cons, show i + 1 + l.length = i + (l.length + 1) by omega]
theorem allF_snoc {L : List Sg} {i : Nat} (h : i < L.length) : allF (L.take (i + 1)) = allF (L.take i) ++ if L[i].s.size = 0 then [] else [clampS L[i] i] := by
  unfold allF
  rw [List.take_add_one, List.getElem?_eq_getElem h, Option.toList_some, allN_app, Nat.zero_add, List.length_take, Nat.min_eq_left (by omega)]
  simp [allN]
theorem allN_at : ∀ (i : Nat) (L : List Sg), ∀ x ∈ allN i L, i ≤ x.at' ∧ x.s.size ≠ 0 ∧ Cl x ∧ ∃ g ∈ L, x.s = g.s
  | i, [], x, h => by cases h
  | i, g :: L, x, h => by
    unfold allN at h
    rcases List.mem_append.1 h with h | h
    · split at h
      · cases h
      · rename_i hs
        rw [List.mem_singleton.1 h]
        exact ⟨Nat.le_refl _, hs, clamp_cl g i, g, List.mem_cons_self, rfl⟩
    · obtain ⟨h1, h2, h3, g', h4, h5⟩ := allN_at (i + 1) L x h
      exact ⟨by omega, h2, h3, g', List.mem_cons_of_mem _ h4, h5⟩
theorem allN_up : ∀ (i : Nat) (L : List Sg), (allN i L).Pairwise fun a b => a.at' < b.at'
  | i, [] => List.Pairwise.nil
  | i, g :: L => by
    unfold allN
    refine List.pairwise_append.2 ⟨?_, allN_up (i + 1) L, fun a ha b hb => ?_⟩
    · split
      · exact List.Pairwise.nil
      · exact List.pairwise_singleton _ _
    · have := (allN_at (i + 1) L b hb).1
      split at ha
      · cases ha
      · rw [List.mem_singleton.1 ha]
        show i < b.at'
        omega
theorem allN_len : ∀ (i : Nat) (L : List Sg), (allN i L).length ≤ L.length
  | i, [] => Nat.le_refl _
  | i, g :: L => by
    have := allN_len (i + 1) L
    unfold allN
    rw [List.length_append, List.length_cons]
    split
    · simp only [List.length_nil]; omega
    · simp only [List.length_singleton]; omega
theorem allF_apart (L : List Sg) : Apart (allF L) := (allN_up 0 L).imp fun {a b} h => by omega
theorem elS : El Tryd.prog 51 61 10 96 (.agg (scells ⟨0, ⟨#[]⟩, 0, 0, 0, 0, 0, ⟨#[]⟩, 0, 0⟩).toArray) := ⟨by kernel_rfl, by kernel_rfl, by kernel_rfl, by kernel_rfl, rfl⟩
theorem elR : El Tryd.prog 49 51 1 24 (.slice none 0 0) := ⟨by kernel_rfl, by kernel_rfl, by kernel_rfl, by kernel_rfl, rfl⟩
theorem scells_one (x : Sg) : ∀ v ∈ scells x, v.oneCell' = true := fun v hv => by
  simp only [scells, gcells, List.mem_append, List.mem_cons, List.not_mem_nil, or_false] at hv
  rcases hv with (rfl | rfl | rfl | rfl | rfl | rfl | rfl | rfl | rfl) | rfl <;> rfl
/-- What is known of a list that a sort has been given. -/
theorem sort_in {w : World} {s : Slc} {A : List Sg} (h : Row w s 61 10 (A.flatMap scells)) (hl : A.length ≤ 2000000) (hup : A.Pairwise fun a b => a.at' < b.at') :
    C39 s (.func (.func 40) #[] #[]) w fun w1 => Ext s.own w w1 ∧ Row w1 s 61 10 ((sortI ltY A).flatMap scells) := by
  have hT : ∀ i e, ((List.range A.length).map fun i => ((i, i) : Srt.E))[i]? = some e → e = (i, i) ∧ i < A.length := fun i e he => by
    rw [List.getElem?_map] at he
    obtain ⟨j, hj, rfl⟩ := Option.map_eq_some_iff.1 he
    obtain ⟨hlt, rfl⟩ := List.getElem?_eq_some_iff.1 hj
    simp only [List.length_range] at hlt
    simp only [List.getElem_range]
    exact ⟨trivial, hlt⟩
  have hel : ((List.range A.length).map fun i => ((i, i) : Srt.E)).map (Ssr.el A) = A := by
    refine List.ext_getElem? fun i => ?_
    rw [List.map_map, List.getElem?_map]
    by_cases hi : i < A.length
    · rw [List.getElem?_range hi, List.getElem?_eq_getElem hi]
      show some (A.getD i default) = _
      rw [List.getD_eq_getElem?_getD, List.getElem?_eq_getElem hi]
      rfl
    · rw [List.getElem?_eq_none (by rw [List.length_range]; omega), List.getElem?_eq_none (by omega)]
      rfl
  have hrw : ∀ T : List Srt.E, Ssr.rw10 A T = (T.map (Ssr.el A)).flatMap scells := fun T => by unfold Ssr.rw10; rw [List.flatMap_map]
  have HS : Ssr.SS w s ((List.range A.length).map fun i => ((i, i) : Srt.E)) A (fun i => -(A.getD i default).fy) := by
    refine ⟨?_, fun e _ => rfl, by simpa using hl⟩
    unfold Ssr.PR
    rw [hrw, hel]
    exact h
  have htag : ((List.range A.length).map fun i => ((i, i) : Srt.E)).Pairwise fun x y => x.2 < y.2 := by
    refine List.pairwise_map.2 ?_
    exact List.pairwise_lt_range
  refine (Ssr.c_sort HS htag).mono ?_
  rintro w1 ⟨e1, T', hp, hs, H1⟩
  refine ⟨e1, ?_⟩
  have hrow := H1.row
  unfold Ssr.PR at hrow
  rw [hrw] at hrow
  have hperm : (T'.map (Ssr.el A)).Perm A := by
    have := hp.map (Ssr.el A)
    rwa [hel] at this
  have hmem : ∀ e ∈ T', e.1 = e.2 ∧ e.1 < A.length := fun e he => by
    obtain ⟨i, hi⟩ := List.mem_iff_getElem?.1 (hp.mem_iff.1 he)
    obtain ⟨rfl, hlt⟩ := hT i e hi
    exact ⟨rfl, hlt⟩
  have hso : (T'.map (Ssr.el A)).Pairwise fun a b => ltY a b = true := by
    refine List.pairwise_map.2 (List.Pairwise.imp_of_mem ?_ hs)
    intro a b ha hb hab
    obtain ⟨a1, a2⟩ := hmem a ha
    obtain ⟨b1, b2⟩ := hmem b hb
    unfold ltY Ssr.el
    simp only [decide_eq_true_eq]
    unfold Srt.lt at hab
    dsimp only at hab
    rcases hab with h | ⟨h1, h2⟩
    · exact .inl (by omega)
    · refine .inr ⟨by omega, ?_⟩
      have := List.pairwise_iff_getElem.1 hup a.1 b.1 a2 b2 (by omega)
      rw [List.getD_eq_getElem?_getD, List.getElem?_eq_getElem a2, List.getD_eq_getElem?_getD, List.getElem?_eq_getElem b2]
      exact this
  rw [sortI_eq ltY ltY_trans ltY_irr (Apart.y (hup.imp fun {a b} h => by omega)) hperm hso]
  exact hrow
end Rdg
end Go.Proofs.YtodhdkbhmkinjaaDoor
/- Reading order: the signs in rows. Conditions: sizes. -/
namespace Go.Proofs.YtodhdkbhmkinjaaDoor
namespace Rdg
open Sh
set_option linter.unusedVariables false
set_option linter.unusedSimpArgs false
set_option maxRecDepth 4000
set_option maxHeartbeats 2000000
theorem ext_new {F : Nat → Prop} {a b c : World} (h : Ext (fun _ => False) a b) (k : Ext F b c) (hF : ∀ j, F j → a.heap.size ≤ j) : Ext (fun _ => False) a c :=
  h.trans k (fun _ h => h) fun j hj e => by have := hF j e; omega
theorem blk_ty {w : World} {b : Nat} {cs cs' : Array Value} {t t' : TypeId} (h : Blk w b cs t) (k : Blk w b cs' t') : t = t' := by
  unfold Blk at h k
  rw [h] at k
  cases k
  rfl
theorem own_blk {w : World} {s : Slc} {e : TypeId} {k : Nat} {xs : List Value} (h : Row w s e k xs) {j : Nat} (hj : s.own j) : ∃ cs, Blk w j cs e := by
  obtain ⟨a, ha, hb⟩ := hj
  rcases h.2 with rfl | ⟨g, cur, hp, hg, _⟩
  · cases ha
  · rw [hp] at ha
    cases ha
    exact ⟨cur, hb ▸ hg⟩
theorem own_apart {w : World} {s q : Slc} {e e' : TypeId} {k k' : Nat} {xs ys : List Value} (h : Row w s e k xs) (h' : Row w q e' k' ys) (hne : e ≠ e') : ∀ j, s.own j → ¬ q.own j := fun j h1 h2 => by
  obtain ⟨c1, b1⟩ := own_blk h h1
  obtain ⟨c2, b2⟩ := own_blk h' h2
  exact hne (blk_ty b1 b2)
theorem no_own (j : Nat) : ¬ Slc.own ⟨none, 0, 0⟩ j := fun ⟨a, ha, _⟩ => by cases ha
def rcells (q : Slc) : List Value := [Slc.v q]
theorem rcells_len (q : Slc) : (rcells q).length = 1 := rfl
theorem rcells_one (q : Slc) : ∀ v ∈ rcells q, v.oneCell' = true := fun v hv => by
  rw [List.mem_singleton.1 hv]
  rfl
/-- The rows that are being built. -/
structure RowsR (w0 w : World) (s : Slc) (ss : List Slc) (R : List (List Sg)) : Prop where
  row : Row w s 51 1 (ss.flatMap rcells)
  len : ss.length = R.length
  rows : ∀ (i : Nat) (q : Slc) (r : List Sg), ss[i]? = some q → R[i]? = some r → Row w q 61 10 (r.flatMap scells) ∧ r ≠ []
  apart : ss.Pairwise fun p q => ∀ j, p.own j → ¬ q.own j
  newR : ∀ q ∈ ss, ∀ j, q.own j → w0.heap.size ≤ j
  newS : ∀ j, s.own j → w0.heap.size ≤ j
  cl : ∀ r ∈ R, ∀ x ∈ r, Cl x
theorem RowsR.nil (w0 w : World) : RowsR w0 w ⟨none, 0, 0⟩ [] [] := ⟨Row.nil _ _ _, rfl, fun i q r h => by simp at h, List.Pairwise.nil, fun q hq => by simp at hq, fun j hj => (no_own j hj).elim, fun r hr => by simp at hr⟩
section
variable {w0 w w' : World} {s : Slc} {ss : List Slc} {R : List (List Sg)}
theorem RowsR.count (h : RowsR w0 w s ss R) : s.len = R.length := by rw [VRow.count rcells_len (by decide) (Row.view h.row), h.len]
theorem RowsR.keep (h : RowsR w0 w s ss R) (he : Ext (fun _ => False) w w') : RowsR w0 w' s ss R :=
  ⟨h.row.keep he fun _ _ e => e, h.len, fun i q r h1 h2 => ⟨(h.rows i q r h1 h2).1.keep he fun _ _ e => e, (h.rows i q r h1 h2).2⟩, h.apart, h.newR, h.newS, h.cl⟩
theorem RowsR.own_lt (h : RowsR w0 w s ss R) {q : Slc} (hq : q ∈ ss) {j : Nat} (hj : q.own j) : j < w.heap.size := by
  obtain ⟨i, hi⟩ := List.mem_iff_getElem?.1 hq
  have hlt := (List.getElem?_eq_some_iff.1 hi).1
  rw [h.len] at hlt
  obtain ⟨c, hb⟩ := own_blk (h.rows i q _ hi (List.getElem?_eq_getElem hlt)).1 hj
  exact hb.lt
/-- A row more, of one sign. -/
theorem RowsR.push (h : RowsR w0 w s ss R) (hw : w0.heap.size ≤ w.heap.size) {x : Sg} (hx : Cl x) (hl : R.length ≤ 2000000) {K : Slc → World → Prop}
    (k : ∀ s' w' ss', RowsR w0 w' s' ss' (R ++ [[x]]) → Ext s.own w w' → K s' w') :
    Nw w (.cells (scells x).toArray 61) fun w1 => Nw w1 (.cells #[Slc.v (⟨some ⟨w.heap.size, 0, none⟩, 1, 1⟩ : Slc)] 51) fun w2 =>
      Rn Tryd.prog (Builtin.append_ #[49, 49] 49 #[Slc.v s, Slc.v (⟨some ⟨w1.heap.size, 0, none⟩, 1, 1⟩ : Slc)]) w2 Slc.v K := by
  refine Nw.of (Nw.of ?_)
  have e1 : Ext (fun _ => False) w (w.alloc (.cells (scells x).toArray 61)) := (Ext.refl _ w).alloc _
  have e2 := e1.alloc (.cells #[Slc.v (⟨some ⟨w.heap.size, 0, none⟩, 1, 1⟩ : Slc)] 51)
  have rx : Row (w.alloc (.cells (scells x).toArray 61)) ⟨some ⟨w.heap.size, 0, none⟩, 1, 1⟩ 61 10 ([x].flatMap scells) := by
    have := Row.new w (scells x).toArray 61 10 1 rfl
    simpa using this
  have hc := h.count
  obtain ⟨s', w', hrun, hrow, hlen, hext, hown⟩ := elR.app1 (ty := 49) (ys := rcells ⟨some ⟨w.heap.size, 0, none⟩, 1, 1⟩) (h.row.keep e2 fun _ _ e => e) (Blk.new (w.alloc (.cells (scells x).toArray 61)) #[Slc.v (⟨some ⟨w.heap.size, 0, none⟩, 1, 1⟩ : Slc)] 51) rfl (rcells_one _) (by omega) (by omega)
  refine ⟨s', w', hrun, k s' w' (ss ++ [⟨some ⟨w.heap.size, 0, none⟩, 1, 1⟩]) ⟨?_, ?_, fun i q r h1 h2 => ?_, ?_, fun q hq j hj => ?_, fun j hj => ?_, fun r hr y hy => ?_⟩ (e2.trans hext (fun _ e => e.elim) fun _ _ e => e)⟩
  · rw [List.flatMap_append]
    simpa using hrow
  · rw [List.length_append, List.length_append, h.len]
    rfl
  · have hne : (51 : TypeId) ≠ 61 := by decide
    by_cases hi : i < ss.length
    · rw [List.getElem?_append_left hi] at h1
      rw [List.getElem?_append_left (by rw [← h.len]; exact hi)] at h2
      obtain ⟨a, b⟩ := h.rows i q r h1 h2
      exact ⟨(a.keep e2 fun _ _ e => e).keep hext fun j hj e => own_apart h.row a hne j e hj, b⟩
    · have : i = ss.length := by
        have := (List.getElem?_eq_some_iff.1 h1).1
        rw [List.length_append, List.length_singleton] at this
        omega
      subst this
      rw [List.getElem?_append_right (Nat.le_refl _), Nat.sub_self] at h1
      rw [h.len, List.getElem?_append_right (Nat.le_refl _), Nat.sub_self] at h2
      cases h1
      cases h2
      refine ⟨(rx.keep ((Ext.refl _ _).alloc _) fun _ _ e => e).keep hext fun j hj e => ?_, by simp⟩
      obtain ⟨a, ha, hb⟩ := hj
      cases ha
      have hb : w.heap.size = j := hb
      have := h.row.own_lt e
      omega
  · refine List.pairwise_append.2 ⟨h.apart, List.pairwise_singleton _ _, fun p hp q hq j hj e => ?_⟩
    rw [List.mem_singleton.1 hq] at e
    obtain ⟨a, ha, hb⟩ := e
    cases ha
    have hb : w.heap.size = j := hb
    have := h.own_lt hp hj
    omega
  · rcases List.mem_append.1 hq with hq | hq
    · exact h.newR q hq j hj
    · rw [List.mem_singleton.1 hq] at hj
      obtain ⟨a, ha, hb⟩ := hj
      cases ha
      have hb : w.heap.size = j := hb
      omega
  · rcases hown j hj with e | e
    · exact h.newS j e
    · have := e2.size
      omega
  · rcases List.mem_append.1 hr with hr | hr
    · exact h.cl r hr y hy
    · rw [List.mem_singleton.1 hr] at hy
      rw [List.mem_singleton.1 hy]
      exact hx
/-- The last row, one sign longer. -/
theorem RowsR.more {R0 : List (List Sg)} {c : List Sg} (h : RowsR w0 w s ss (R0 ++ [c])) (hw : w0.heap.size ≤ w.heap.size) {x : Sg} (hx : Cl x) (hl : (R0 ++ [c]).length ≤ 2000000) (hc : c.length ≤ 2000000) {q : Slc} (hq : ss[R0.length]? = some q) {K : World → Prop}
    (k : ∀ w' ss', RowsR w0 w' s ss' (R0 ++ [c ++ [x]]) → Ext (fun j => w0.heap.size ≤ j) w w' → K w') :
    Nw w (.cells (scells x).toArray 61) fun w1 => Rn Tryd.prog (Builtin.append_ #[51, 51] 51 #[Slc.v q, Slc.v (⟨some ⟨w.heap.size, 0, none⟩, 1, 1⟩ : Slc)]) w1 Slc.v fun (s' : Slc) w2 =>
      ∃ g, s.p = some ⟨g, 0, none⟩ ∧ St w2 ⟨g, R0.length, none⟩ (Slc.v s') K := by
  refine Nw.of ?_
  have hne : (51 : TypeId) ≠ 61 := by decide
  have e1 : Ext (fun _ => False) w (w.alloc (.cells (scells x).toArray 61)) := (Ext.refl _ w).alloc _
  obtain ⟨rq, _⟩ := h.rows R0.length q c hq (by rw [List.getElem?_append_right (Nat.le_refl _), Nat.sub_self]; rfl)
  have hql : q.len = c.length := VRow.count scells_len (by decide) (Row.view rq)
  have hqm : q ∈ ss := List.mem_of_getElem? hq
  have hlt : R0.length < ss.length := (List.getElem?_eq_some_iff.1 hq).1
  obtain ⟨s', w', hrun, hrow, hlen, hext, hown⟩ := elS.app1 (ty := 51) (ys := scells x) (rq.keep e1 fun _ _ e => e) (Blk.new w (scells x).toArray 61) rfl (scells_one x) (by omega) (by omega)
  refine ⟨s', w', hrun, ?_⟩
  -- the outer row holds
  have ho := (h.row.keep e1 fun _ _ e => e).keep hext fun j hj e => own_apart h.row rq hne j hj e
  have hsl := h.count
  rcases ho.2 with rfl | ⟨g, cur, hp, hg, hle, hsz, htk⟩
  · rw [List.length_append, List.length_singleton] at hsl
    exact absurd hsl (by show ¬ (0 = _); omega)
  rw [List.length_append, List.length_singleton] at hsl
  refine ⟨g, hp, ?_⟩
  have hset : (ss.set R0.length s').flatMap rcells = (ss.flatMap rcells).set R0.length (Slc.v s') := by
    have : ∀ l : List Slc, l.flatMap rcells = l.map Slc.v := fun l => by
      induction l with
      | nil => rfl
      | cons a l ih => rw [List.flatMap_cons, ih]; rfl
    rw [this, this, List.map_set]
  unfold St
  refine ⟨hg.can (by omega), k _ (ss.set R0.length s') ?_ ?_⟩
  · have eS : Ext (· = g) w' (w'.setCell ⟨g, R0.length, none⟩ (Slc.v s')) := (Ext.refl (· = g) w').set (.inl rfl) _
    have gnew : w0.heap.size ≤ g := h.newS g ⟨_, hp, rfl⟩
    have gty : ∀ {p : Slc} {ys : List Value}, Row w' p 61 10 ys → ∀ j, p.own j → ¬ j = g := fun hr j hj e => by
      subst e
      exact own_apart ho hr hne j ⟨_, hp, rfl⟩ hj
    have sown : ∀ j, s'.own j → q.own j ∨ w.heap.size ≤ j := fun j hj => by
      rcases hown j hj with e | e
      · exact .inl e
      · have := e1.size; exact .inr (by omega)
    refine ⟨⟨by rw [hset, List.length_set]; exact h.row.1, .inr ⟨g, _, hp, hg.set R0.length _, hle, by simpa using hsz, ?_⟩⟩, ?_, fun i p r h1 h2 => ?_, ?_, fun p hp' j hj => ?_, h.newS, fun r hr y hy => ?_⟩
    · rw [Array.toList_setIfInBounds, List.take_set, htk, hset]
    · rw [List.length_set, h.len, List.length_append, List.length_append]
      rfl
    · by_cases hi : i = R0.length
      · subst hi
        rw [List.getElem?_set_self hlt] at h1
        rw [List.getElem?_append_right (Nat.le_refl _), Nat.sub_self] at h2
        cases h1
        cases h2
        have hrow' : Row w' s' 61 10 ((c ++ [x]).flatMap scells) := by
          rw [List.flatMap_append]
          simpa using hrow
        exact ⟨hrow'.keep eS (gty hrow'), by simp⟩
      · rw [List.getElem?_set_ne (fun e => hi e.symm)] at h1
        have h2 : (R0 ++ [c])[i]? = some r := by
          have hi2 : i < R0.length := by
            have := (List.getElem?_eq_some_iff.1 h2).1
            rw [List.length_append, List.length_singleton] at this
            omega
          rw [List.getElem?_append_left hi2] at h2 ⊢
          exact h2
        obtain ⟨a, b⟩ := h.rows i p r h1 h2
        have ha := (a.keep e1 fun _ _ e => e).keep hext fun j hj e => by
          have hpw := h.apart
          rcases Nat.lt_or_ge i R0.length with hlt2 | hge
          · have hii := (List.getElem?_eq_some_iff.1 h1)
            have hjj := (List.getElem?_eq_some_iff.1 hq)
            have := List.pairwise_iff_getElem.1 hpw i R0.length hii.1 hjj.1 hlt2
            rw [hii.2, hjj.2] at this
            exact this j hj e
          · have hii := (List.getElem?_eq_some_iff.1 h1)
            have hjj := (List.getElem?_eq_some_iff.1 hq)
            have := List.pairwise_iff_getElem.1 hpw R0.length i hjj.1 hii.1 (by omega)
            rw [hii.2, hjj.2] at this
            exact this j e hj
        exact ⟨ha.keep eS (gty ha), b⟩
    · refine List.pairwise_iff_getElem.2 fun i j hi hj hij b h1 h2 => ?_
      rw [List.length_set] at hi hj
      have hpw := List.pairwise_iff_getElem.1 h.apart
      rw [List.getElem_set] at h1 h2
      have hqe := (List.getElem?_eq_some_iff.1 hq).2
      split at h1
      · rename_i ei
        split at h2
        · omega
        · rcases sown b h1 with e | e
          · have := hpw R0.length j hlt hj (by omega) b
            rw [hqe] at this
            exact this e h2
          · have := h.own_lt (List.getElem_mem hj) h2
            omega
      · split at h2
        · rcases sown b h2 with e | e
          · have := hpw i R0.length hi hlt (by omega) b h1
            rw [hqe] at this
            exact this e
          · have := h.own_lt (List.getElem_mem hi) h1
            omega
        · exact hpw i j hi hj hij b h1 h2
    · rcases List.mem_or_eq_of_mem_set hp' with hm | rfl
      · exact h.newR p hm j hj
      · rcases sown j hj with e | e
        · exact h.newR q hqm j e
        · omega
    · rcases List.mem_append.1 hr with hr | hr
      · exact h.cl r (List.mem_append_left _ hr) y hy
      · rw [List.mem_singleton.1 hr] at hy
        rcases List.mem_append.1 hy with hy | hy
        · exact h.cl c (by simp) y hy
        · rw [List.mem_singleton.1 hy]
          exact hx
  · refine ((e1.mono fun _ _ e => e.elim).tr (hext.mono fun j _ e => h.newR q hqm j e)).set (.inl (h.newS g ⟨_, hp, rfl⟩)) _
end
end Rdg
end Go.Proofs.YtodhdkbhmkinjaaDoor

/- Reading order: rows. Conditions: sizes. -/
namespace Go.Proofs.YtodhdkbhmkinjaaDoor
namespace Rdg
open Sh
set_option linter.unusedVariables false
set_option linter.unusedSimpArgs false
set_option maxRecDepth 4000
set_option maxHeartbeats 2000000
theorem ldS_mk {α : Type} {S : World → Prop} {V : α → Value} {K : α → Prop} {x : α} {a : Addr} (h : ∀ w, S w → w.cell? a = some (V x)) (k : K x) : LdS S a V K := ⟨x, h, k⟩
attribute [local irreducible] Ld St Nw Nn Lt LdS
/-- Rows that can be read. -/
structure RsV (w : World) (s : Slc) (ss : List Slc) (R : List (List Sg)) : Prop where
  row : VRow w s 1 (ss.flatMap rcells)
  len : ss.length = R.length
  rows : ∀ (i : Nat) (q : Slc) (r : List Sg), ss[i]? = some q → R[i]? = some r → VRow w q 10 (r.flatMap scells)
theorem RsV.keep {w w' : World} {s : Slc} {ss : List Slc} {R : List (List Sg)} (h : RsV w s ss R) (he : Ext (fun _ => False) w w') : RsV w' s ss R :=
  ⟨h.row.keep he, h.len, fun i q r h1 h2 => (h.rows i q r h1 h2).keep he⟩
theorem ldGA {w : World} {a : Addr} {g : Sg} {K : TyA31 → Prop} (h : ∀ j v, (gcells g)[j]? = some v → w.cell? (a.add j) = some v) (k : K (gt g)) : LdT w a 0 LiA31 K := LdT.any LiA31 0 (gt g) K (fun j v hj => by rw [Nat.zero_add]; exact h j v hj) k
theorem ldSA {w : World} {a : Addr} {x : Sg} {K : TyA60 → Prop} (h : ∀ j v, (scells x)[j]? = some v → w.cell? (a.add j) = some v) (k : K (st x)) : LdT w a 0 LiA60 K := LdT.any LiA60 0 (st x) K (fun j v hj => by rw [Nat.zero_add]; exact h j v hj) k
theorem ldSB {S : World → Prop} {b : Nat} {x : Sg} {K : TyA60 → Prop} (h : ∀ w, S w → Blk w b (scells x).toArray 61) (k : K (st x)) : LdST S ⟨b, 0, none⟩ 0 LiA60 K := LdST.blk (ts := LiA60) (x := st x) (pre := []) (post := []) h rfl k
def zeroS : Sg := ⟨0, ⟨#[]⟩, 0, 0, 0, 0, 0, ⟨#[]⟩, 0, 0⟩
theorem take_one {α : Type} {l : List α} {i : Nat} (h : i < l.length) : l.take (i + 1) = l.take i ++ [l[i]] := by rw [List.take_add_one, List.getElem?_eq_getElem h]; rfl
/-- The third loop: each row is sorted by X. -/
theorem rows_sort {w0 : World} {s : Slc} {ss : List Slc} {R : List (List Sg)} {v9 : Int} (hA : ∀ r ∈ R, Apart r) (hbig : R.length ≤ 2000000 ∧ ∀ r ∈ R, r.length ≤ 2000000) {Rs : Slc → World → Prop} (k : ∀ w' , RsV w' s ss (R.map (sortI ltX)) → Ext (fun _ => False) w0 w' → Rs s w') :
    ∀ {w : World}, RowsR w0 w s ss R → Ext (fun _ => False) w0 w → Lp (σ := Int) (S24L1 (s, v9) Rs) 0 w := by
  intro w h e0
  have hc := h.count
  have hne : (51 : TypeId) ≠ 61 := by decide
  refine ⟨fun m i' w1 => ∃ i : Nat, i' = (i : Int) ∧ i ≤ R.length ∧ m = R.length - i ∧ Row w1 s 51 1 (ss.flatMap rcells) ∧ (∀ (j : Nat) (q : Slc) (r : List Sg), ss[j]? = some q → R[j]? = some r → (j < i → VRow w1 q 10 ((sortI ltX r).flatMap scells)) ∧ (i ≤ j → Row w1 q 61 10 (r.flatMap scells))) ∧ Ext (fun _ => False) w0 w1 ∧ (∀ q ∈ ss, ∀ j, q.own j → j < w1.heap.size) ∧ (∀ q ∈ ss, ∀ j, q.own j → ¬ s.own j), R.length,
    ⟨0, rfl, Nat.zero_le _, rfl, h.row, fun j q r h1 h2 => ⟨fun hh => absurd hh (Nat.not_lt_zero _), fun _ => (h.rows j q r h1 h2).1⟩, e0, fun q hq j hj => h.own_lt hq hj, fun q hq j hj e => ?_⟩, ?_⟩
  · obtain ⟨i, hi⟩ := List.mem_iff_getElem?.1 hq
    have hlt := (List.getElem?_eq_some_iff.1 hi).1
    rw [h.len] at hlt
    exact own_apart h.row (h.rows i q _ hi (List.getElem?_eq_getElem hlt)).1 hne j e hj
  rintro m i' w1 ⟨i, rfl, hi, rfl, hrow, hrows, e1, hlt, hap⟩
  unfold S24L1
  dsimp only
  rw [hc]
  refine Br.dec (fun q => ?_) fun q => ?_
  · have hiR : i < R.length := by omega
    have his : i < ss.length := by rw [h.len]; exact hiR
    obtain ⟨a, ha, hcell⟩ := VRow.elem rcells_len (Row.view hrow) (List.getElem?_eq_getElem his) (by decide)
    rw [ha]
    refine ⟨by omega, by omega, Nn.of ?_⟩
    rw [Int.toNat_natCast]
    refine Ld.mk (x := ss[i]) (hcell 0 _ rfl) ?_
    have hq : ss[i]? = some ss[i] := List.getElem?_eq_getElem his
    have hr : R[i]? = some R[i] := List.getElem?_eq_getElem hiR
    have hmem := List.getElem_mem hiR
    have hqm := List.getElem_mem his
    have hne' := (h.rows i _ _ hq hr).2
    refine (c_sortX ((hrows i _ _ hq hr).2 (Nat.le_refl _)) hne' (hbig.2 _ hmem) (hA _ hmem)).mono ?_
    rintro w2 ⟨e2, hv⟩
    refine ⟨R.length - (i + 1), by omega, i + 1, by rw [i64_id (by omega)]; rfl, by omega, rfl, hrow.keep e2 fun j hj e => hap _ hqm j e hj, fun j p r h1 h2 => ?_, ext_new e1 e2 fun j hj => h.newR _ hqm j hj, fun p hp j hj => by have := hlt p hp j hj; have := e2.size; omega, hap⟩
    have pw := List.pairwise_iff_getElem.1 h.apart
    have other : j ≠ i → ∀ b, p.own b → ¬ (ss[i]).own b := fun hji b hb => by
      obtain ⟨hjs, hje⟩ := List.getElem?_eq_some_iff.1 h1
      rcases Nat.lt_or_ge j i with hl | hl
      · have := pw j i hjs his hl b
        rw [hje] at this
        exact this hb
      · have := pw i j his hjs (by omega) b
        rw [hje] at this
        exact fun e => this e hb
    refine ⟨fun hj => ?_, fun hj => ((hrows j p r h1 h2).2 (by omega)).keep e2 (other (by omega))⟩
    by_cases hji : j = i
    · subst hji
      rw [hq] at h1
      rw [hr] at h2
      cases h1
      cases h2
      exact hv
    · exact ((hrows j p r h1 h2).1 (by omega)).keepF e2 (other hji)
  · have : i = R.length := by omega
    subst this
    refine k w1 ⟨Row.view hrow, by rw [List.length_map, h.len], fun j p r h1 h2 => ?_⟩ e1
    rw [List.getElem?_map] at h2
    obtain ⟨r', hr', rfl⟩ := Option.map_eq_some_iff.1 h2
    exact (hrows j p r' h1 hr').1 (List.getElem?_eq_some_iff.1 hr').1
theorem c_rows {w : World} {s : Slc} {L : List Sg} (hG : GsV w s L) (hl : L.length ≤ 1048576) : C24 s w fun r w1 => (∃ ss, RsV w1 r ss (rowsF (allF L))) ∧ Ext (fun _ => False) w w1 := by
  have hlen : s.len = L.length := VRow.count gcells_len (by decide) hG.row
  refine T24 _ _ _ ?_
  unfold S24
  refine ⟨fun m st w1 => ∃ i : Nat, st.2 = (i : Int) ∧ i ≤ L.length ∧ m = L.length - i ∧ Row w1 st.1 61 10 ((allF (L.take i)).flatMap scells) ∧ (∀ j, st.1.own j → w.heap.size ≤ j) ∧ Ext (fun _ => False) w w1, L.length, ⟨0, rfl, Nat.zero_le _, rfl, Row.nil _ _ _, fun j hj => (no_own j hj).elim, Ext.refl _ _⟩, ?_⟩
  rintro m ⟨sl, i'⟩ w17 ⟨i, hi', hi, rfl, hR, ho, e17⟩
  simp only at hi' hR ho
  subst hi'
  unfold S24L3
  dsimp only
  have hsl : sl.len = (allF (L.take i)).length := VRow.count scells_len (by decide) (Row.view hR)
  have hal : (allF (L.take i)).length ≤ i := by
    have := allN_len 0 (L.take i)
    rw [List.length_take] at this
    unfold allF
    omega
  rw [hlen]
  refine Br.dec (fun q => ?_) fun q => ?_
  · have hil : i < L.length := by omega
    obtain ⟨a, ha, hc⟩ := VRow.elem gcells_len (hG.row.keep e17) (List.getElem?_eq_getElem hil) (by decide)
    have hsn := allF_snoc hil
    generalize L[i] = g at *
    rw [ha]
    refine ⟨by omega, by omega, Nn.of ?_⟩
    rw [Int.toNat_natCast]
    refine ldGA (g := g) (fun j v hj => by rw [add_add']; exact hc j v hj) ?_
    refine (Hn.start w17).nw fun w21 H => ?_
    have H : Hn w17 w21 [(w17.heap.size, gcells zeroS, 32)] := H
    refine stG (x := g) H 0 rfl fun w22 H => ?_
    simp only [List.set_cons_zero] at H
    refine H.ld 0 rfl (x := g.s) rfl ?_
    have next : ∀ (s' : Slc) (w' : World), Row w' s' 61 10 ((allF (L.take (i + 1))).flatMap scells) → (∀ j, s'.own j → w.heap.size ≤ j) → Ext (fun _ => False) w w' → ∃ n', n' < L.length - i ∧ ∃ i_1 : Nat, IntKind.i64.wrap ((i : Int) + 1) = (i_1 : Int) ∧ i_1 ≤ L.length ∧ n' = L.length - i_1 ∧ Row w' s' 61 10 ((allF (L.take i_1)).flatMap scells) ∧ (∀ j, s'.own j → w.heap.size ≤ j) ∧ Ext (fun _ => False) w w' := fun s' w' h1 h2 h3 =>
      ⟨L.length - (i + 1), by omega, i + 1, by rw [i64_id (by omega)]; rfl, by omega, rfl, h1, h2, h3⟩
    rw [eqL]
    by_cases hs : g.s.size = 0
    · rw [if_pos hs, List.append_nil] at hsn
      have hb : g.s.data.toList = [] := List.eq_nil_of_length_eq_zero (by rw [← size_list]; exact hs)
      refine Br.f (by rw [hb]; rfl) (next sl w22 (by rw [hsn]; exact hR.keep H.ext fun _ _ e => e) ho (e17.tr H.ext))
    · rw [if_neg hs] at hsn
      have hb : g.s.data.toList ≠ [] := fun e => hs (by rw [size_list, e]; rfl)
      refine Br.t (by rw [decide_eq_false hb]; rfl) ?_
      refine ldG H 0 rfl ?_
      refine (c_signed g i _).mono ?_
      rintro r w26 ⟨rfl, e26⟩
      have H := H.keep e26
      refine Nw.of ?_
      have E26 := e17.tr H.ext
      have e1 := (Ext.refl (fun _ => False) w26).alloc (.cells (scells (clampS g i)).toArray 61)
      obtain ⟨s', w', hrun, hrow, hlen', hext, hown⟩ := elS.app1 (ty := 51) (ys := scells (clampS g i)) (hR.keep (H.ext.tr e1) fun _ _ e => e) (Blk.new w26 (scells (clampS g i)).toArray 61) rfl (scells_one _) (by omega) (by omega)
      refine ⟨s', w', hrun, next s' w' ?_ (fun j hj => ?_) (ext_new (E26.tr e1) hext ho)⟩
      · rw [hsn, List.flatMap_append]
        simpa using hrow
      · rcases hown j hj with e | e
        · exact ho j e
        · have := (E26.tr e1).size
          omega
  · have : i = L.length := by omega
    subst this
    rw [List.take_length] at hR hsl hal
    have hup := allN_up 0 L
    have hcl : ∀ x ∈ allF L, Cl x := fun x hx => (allN_at 0 L x hx).2.2.1
    have hAp := allF_apart L
    have hrf : rowsF (allF L) = (splitF (sortI ltY (allF L)).length (sortI ltY (allF L))).map (sortI ltX) := rfl
    have hpm := sortI_perm ltY (allF L)
    refine (sort_in hR (by omega) hup).mono ?_
    rintro w30 ⟨e30, hB⟩
    have E30 := ext_new e17 e30 ho
    rw [hrf, ← rows_fold]
    have hclB : ∀ x ∈ sortI ltY (allF L), Cl x := fun x hx => hcl x (hpm.mem_iff.1 hx)
    have hApB : Apart (sortI ltY (allF L)) := hAp.perm hpm.symm
    have hlB : (sortI ltY (allF L)).length = (allF L).length := hpm.length_eq
    generalize sortI ltY (allF L) = B at *
    have hsl : sl.len = B.length := by omega
    clear hR hrf hup hcl hAp hpm
    -- the rows, from the last to the first
    have hfl : ∀ i, i ≤ B.length → ((B.take i).foldl addRow []).reverse.flatten = B.take i ∧ ((B.take i).foldl addRow []).length ≤ i := by
      intro i hi
      have h1 := rows_fold (B.take i)
      have h2 := splitF_flat _ (B.take i) (Nat.le_refl _)
      rw [← h1] at h2
      refine ⟨h2, ?_⟩
      have hne : ∀ n l, ∀ r ∈ splitF n l, 1 ≤ r.length := by
        intro n
        induction n with
        | zero => intro l r hr; cases hr
        | succ n ih =>
          intro l r hr
          cases l with
          | nil => cases hr
          | cons x l =>
            unfold splitF at hr
            rcases List.mem_cons.1 hr with rfl | hr
            · simp
            · exact ih _ r hr
      have hcount : ∀ R : List (List Sg), (∀ r ∈ R, 1 ≤ r.length) → R.length ≤ R.flatten.length := by
        intro R
        induction R with
        | nil => intro _; exact Nat.zero_le _
        | cons r R ih =>
          intro h
          have a := h r List.mem_cons_self
          have b := ih fun r hr => h r (List.mem_cons_of_mem _ hr)
          rw [List.flatten_cons, List.length_append, List.length_cons]
          omega
      have h3 := hcount _ fun r hr => hne (B.take i).length (B.take i) r (by rw [← h1]; exact hr)
      rw [h2, List.length_reverse, List.length_take] at h3
      omega
    refine ⟨fun m st w1 => ∃ i : Nat, st.2 = (i : Int) ∧ i ≤ B.length ∧ m = B.length - i ∧ (∃ ss, RowsR w30 w1 st.1 ss ((B.take i).foldl addRow []).reverse) ∧ Ext (fun _ => False) w30 w1, B.length, ⟨0, rfl, Nat.zero_le _, rfl, ⟨[], RowsR.nil _ _⟩, Ext.refl _ _⟩, ?_⟩
    rintro m ⟨so, i'⟩ w67 ⟨i, hi', hi2, rfl, ⟨ss, hRR⟩, e67⟩
    simp only at hi' hRR
    subst hi'
    unfold S24L2
    dsimp only
    rw [hsl]
    obtain ⟨hflat, hcnt⟩ := hfl i hi2
    refine Br.dec (fun q => ?_) fun q => ?_
    · have hiB : i < B.length := by omega
      have htk := take_one hiB
      have hxc := hclB B[i] (List.getElem_mem hiB)
      obtain ⟨a, ha, hc⟩ := VRow.elem scells_len ((Row.view hB).keep e67) (List.getElem?_eq_getElem hiB) (by decide)
      generalize B[i] = x at *
      have hfold : (B.take (i + 1)).foldl addRow [] = addRow ((B.take i).foldl addRow []) x := by rw [htk, List.foldl_append]; rfl
      generalize (B.take i).foldl addRow [] = Q at *
      rw [ha]
      refine ⟨by omega, by omega, Nn.of ?_⟩
      rw [Int.toNat_natCast]
      refine ldSA (x := x) (fun j v hj => by rw [add_add']; exact hc j v hj) ?_
      refine (Hn.start w67).nw fun w71 H => ?_
      have H : Hn w67 w71 [(w67.heap.size, scells zeroS, 61)] := H
      refine stSg (x := x) H 0 rfl fun w72 H => ?_
      simp only [List.set_cons_zero] at H
      have hso := hRR.count
      rw [List.length_reverse] at hso
      have next : ∀ (s' : Slc) (w' : World) (ss' : List Slc), RowsR w30 w' s' ss' (addRow Q x).reverse → Ext (fun _ => False) w30 w' → ∃ n', n' < B.length - i ∧ ∃ i_1 : Nat, IntKind.i64.wrap ((i : Int) + 1) = (i_1 : Int) ∧ i_1 ≤ B.length ∧ n' = B.length - i_1 ∧ (∃ ss, RowsR w30 w' s' ss ((B.take i_1).foldl addRow []).reverse) ∧ Ext (fun _ => False) w30 w' := fun s' w' ss' h1 h2 =>
        ⟨B.length - (i + 1), by omega, i + 1, by rw [i64_id (by omega)]; rfl, by omega, rfl, ⟨ss', by rw [hfold]; exact h1⟩, h2⟩
      have z30 := (e67.tr H.ext).size
      refine Br.dec (fun q1 => ?_) fun q1 => ?_
      · obtain ⟨c, cs, rfl⟩ : ∃ c cs, Q = c :: cs := by
          match Q, hso with
          | [], hso => rw [hso] at q1; simp at q1
          | c :: cs, _ => exact ⟨c, cs, rfl⟩
        rw [List.length_cons] at hso hcnt
        rw [List.reverse_cons] at hRR
        have hRR2 := hRR.keep H.ext
        have hcslen : cs.reverse.length = cs.length := List.length_reverse
        have hssl : ss.length = cs.length + 1 := by rw [hRR.len, List.length_append, hcslen]; rfl
        have hq : ss[cs.length]? = some ss[cs.length] := List.getElem?_eq_getElem (by omega)
        have hcR : (cs.reverse ++ [c])[cs.length]? = some c := by rw [List.getElem?_append_right (by omega), hcslen, Nat.sub_self]; rfl
        obtain ⟨rq, hcne⟩ := hRR2.rows cs.length _ _ hq hcR
        obtain ⟨f, c', rfl⟩ : ∃ f c', c = f :: c' := by
          match c, hcne with
          | f :: c', _ => exact ⟨f, c', rfl⟩
        have hfc : Cl f := hRR.cl (f :: c') (by simp) f List.mem_cons_self
        have hn1 : IntKind.i64.wrap ((so.len : Nat) - 1 : Int) = ((cs.length : Nat) : Int) := by rw [hso, i64_id (by omega)]; omega
        obtain ⟨ao, hao, hco⟩ := VRow.elem rcells_len (Row.view hRR2.row) hq (by decide)
        obtain ⟨af, haf, hcf⟩ := VRow.elem (x := f) scells_len (Row.view rq) (i := 0) rfl (by decide)
        have hql : (ss[cs.length]).len = c'.length + 1 := VRow.count scells_len (by decide) (Row.view rq)
        rw [hn1, hao]
        refine ⟨by omega, by omega, Nn.of ?_⟩
        rw [Int.toNat_natCast]
        refine Ld.mk (x := ss[cs.length]) (hco 0 _ rfl) ⟨by decide, by omega, ?_⟩
        rw [haf]
        refine Nn.of ?_
        refine ldSA (x := f) (fun j v hj => by rw [add_add', show ((0 : Int)).toNat * 10 + j = 0 * 10 + j by simp]; exact hcf j v hj) ?_
        refine H.nw fun w77 H => ?_
        have H : Hn w67 w77 [(w67.heap.size, scells x, 61), (w72.heap.size, scells zeroS, 61)] := H
        refine stSg (x := f) H 1 rfl fun w78 H => ?_
        simp only [List.set_cons_zero, List.set_cons_succ] at H
        refine H.ld 1 rfl (x := f.fy) rfl (H.ld 0 rfl (x := x.fy) rfl (H.ld 1 rfl (x := f.hi) rfl ?_))
        have b1 := hfc.fy
        have b2 := hxc.fy
        have b3 := hfc.hi
        rw [i64_id (n := f.fy - x.fy) (by omega), tdiv_id (by omega), i64_id (n := f.hi / 2) (by omega)]
        have hRR3 := hRR.keep H.ext
        have clen : (f :: c').length ≤ 2000000 := by
          have := congrArg List.length hflat
          rw [List.reverse_cons, List.flatten_append, List.length_append, List.length_take] at this
          simp only [List.flatten_cons, List.flatten_nil, List.append_nil] at this
          omega
        refine Br.dec (fun q2 => ?_) fun q2 => ?_
        · have hadd : addRow ((f :: c') :: cs) x = ((f :: c') ++ [x]) :: cs := by
            unfold addRow near
            simp [q2]
          have Hd := H.drew
          have hRR4 := hRR.keep Hd.ext
          refine ⟨fun w' => VRow w' so 1 (ss.flatMap rcells) ∧ Blk w' w67.heap.size (scells x).toArray 61, ⟨Row.view hRR4.row, Hd.get 0 rfl⟩, by omega, by omega, Nn.of ?_⟩
          refine ldS_mk (x := ss[cs.length]) (fun w' hw' => ?_) ?_
          · obtain ⟨a', ha', hc'⟩ := VRow.elem rcells_len hw'.1 hq (by decide)
            rw [hao] at ha'
            cases ha'
            exact hc' 0 _ rfl
          refine ldSB (x := x) (fun w' hw' => hw'.2) ?_
          have zd := Hd.ext.size
          obtain hmore := hRR4.more (R0 := cs.reverse) (c := f :: c') (x := x) (e67.tr Hd.ext).size hxc (by rw [List.length_append, hcslen]; simp; omega) clen (q := ss[cs.length]) (by rw [hcslen]; exact hq) (K := fun w' => ∃ n', n' < B.length - i ∧ ∃ i_1 : Nat, IntKind.i64.wrap ((i : Int) + 1) = (i_1 : Int) ∧ i_1 ≤ B.length ∧ n' = B.length - i_1 ∧ (∃ ss, RowsR w30 w' so ss ((B.take i_1).foldl addRow []).reverse) ∧ Ext (fun _ => False) w30 w') fun w' ss' h1 h2 => by
            refine next so w' ss' ?_ (ext_new (e67.tr Hd.ext) h2 fun j hj => hj)
            rw [hadd, List.reverse_cons]
            exact h1
          unfold Nw at hmore ⊢
          obtain ⟨s', w2, hrun, g, hg, hst⟩ := hmore
          have e1 : Ext (fun _ => False) w78.drew (w78.drew.alloc (.cells (scells x).toArray 61)) := (Ext.refl _ _).alloc _
          refine ⟨⟨(Row.view hRR4.row).keep e1, e1.blk (Hd.get 0 rfl) id⟩, s', w2, hrun, by omega, by omega, ?_⟩
          rw [hao] at hg
          cases hg
          refine Nn.of ?_
          rw [add_lit, Nat.zero_add, Nat.mul_one, ← hcslen]
          exact hst
        · have hadd : addRow ((f :: c') :: cs) x = [x] :: (f :: c') :: cs := by
            unfold addRow near
            simp [q2]
          refine ldSg H 0 rfl ?_
          refine hRR3.push (e67.tr H.ext).size hxc (by rw [List.length_append, hcslen]; simp; omega) fun s' w' ss' h1 h2 => ?_
          refine next s' w' ss' ?_ (ext_new (e67.tr H.ext) h2 hRR.newS)
          rw [hadd, List.reverse_cons, List.reverse_cons]
          exact h1
      · have : Q = [] := List.eq_nil_of_length_eq_zero (by omega)
        subst this
        refine ldSg H 0 rfl ?_
        refine (hRR.keep H.ext).push (by omega) hxc (by simp) fun s' w' ss' h1 h2 => ?_
        exact next s' w' ss' h1 (ext_new (e67.tr H.ext) h2 hRR.newS)
    · have : i = B.length := by omega
      subst this
      rw [List.take_length] at hRR hflat hcnt
      have hmemR : ∀ r ∈ (B.foldl addRow []).reverse, r.Sublist B := fun r hr => by
        have := List.sublist_flatten_of_mem hr
        rwa [hflat] at this
      refine rows_sort (w0 := w30) (fun r hr => List.Pairwise.sublist (hmemR r hr) hApB) ⟨by rw [List.length_reverse]; omega, fun r hr => by have := (hmemR r hr).length_le; omega⟩ (fun w' h1 h2 => ⟨⟨ss, h1⟩, E30.tr h2⟩) hRR e67
end Rdg
end Go.Proofs.YtodhdkbhmkinjaaDoor
