/- Reading order: the signs in rows. Conditions: sizes. -/
import Derived.Test.YtodhdkbhmkinjaaDoorOsC
namespace Go.Proofs.YtodhdkbhmkinjaaDoor
namespace Rdg
open Sh
set_option linter.unusedVariables false
set_option linter.unusedSimpArgs false
set_option maxRecDepth 4000
set_option maxHeartbeats 2000000
theorem ext_new {F : Nat → Prop} {a b c : World} (h : Ext (fun _ => False) a b) (k : Ext F b c) (hF : ∀ j, F j → a.heap.size ≤ j) : Ext (fun _ => False) a c :=
  h.trans k (fun _ h => h) fun j hj e => by have := hF j e; omega
theorem blk_ty {w : World} {b : Nat} {cs cs' : Array Value} {t t' : TypeId} (h : Blk w b cs t) (k : Blk w b cs' t') : t = t' := by
  unfold Blk at h k
  rw [h] at k
  cases k
  rfl
theorem own_blk {w : World} {s : Slc} {e : TypeId} {k : Nat} {xs : List Value} (h : Row w s e k xs) {j : Nat} (hj : s.own j) : ∃ cs, Blk w j cs e := by
  obtain ⟨a, ha, hb⟩ := hj
  rcases h.2 with rfl | ⟨g, cur, hp, hg, _⟩
  · cases ha
  · rw [hp] at ha
    cases ha
    exact ⟨cur, hb ▸ hg⟩
theorem own_apart {w : World} {s q : Slc} {e e' : TypeId} {k k' : Nat} {xs ys : List Value} (h : Row w s e k xs) (h' : Row w q e' k' ys) (hne : e ≠ e') : ∀ j, s.own j → ¬ q.own j := fun j h1 h2 => by
  obtain ⟨c1, b1⟩ := own_blk h h1
  obtain ⟨c2, b2⟩ := own_blk h' h2
  exact hne (blk_ty b1 b2)
theorem no_own (j : Nat) : ¬ Slc.own ⟨none, 0, 0⟩ j := fun ⟨a, ha, _⟩ => by cases ha
def rcells (q : Slc) : List Value := [Slc.v q]
theorem rcells_len (q : Slc) : (rcells q).length = 1 := rfl
theorem rcells_one (q : Slc) : ∀ v ∈ rcells q, v.oneCell' = true := fun v hv => by
  rw [List.mem_singleton.1 hv]
  rfl
/-- The rows that are being built. -/
structure RowsR (w0 w : World) (s : Slc) (ss : List Slc) (R : List (List Sg)) : Prop where
  row : Row w s 51 1 (ss.flatMap rcells)
  len : ss.length = R.length
  rows : ∀ (i : Nat) (q : Slc) (r : List Sg), ss[i]? = some q → R[i]? = some r → Row w q 61 10 (r.flatMap scells) ∧ r ≠ []
  apart : ss.Pairwise fun p q => ∀ j, p.own j → ¬ q.own j
  newR : ∀ q ∈ ss, ∀ j, q.own j → w0.heap.size ≤ j
  newS : ∀ j, s.own j → w0.heap.size ≤ j
  cl : ∀ r ∈ R, ∀ x ∈ r, Cl x
theorem RowsR.nil (w0 w : World) : RowsR w0 w ⟨none, 0, 0⟩ [] [] := ⟨Row.nil _ _ _, rfl, fun i q r h => by simp at h, List.Pairwise.nil, fun q hq => by simp at hq, fun j hj => (no_own j hj).elim, fun r hr => by simp at hr⟩
section
variable {w0 w w' : World} {s : Slc} {ss : List Slc} {R : List (List Sg)}
theorem RowsR.count (h : RowsR w0 w s ss R) : s.len = R.length := by rw [VRow.count rcells_len (by decide) (Row.view h.row), h.len]
theorem RowsR.keep (h : RowsR w0 w s ss R) (he : Ext (fun _ => False) w w') : RowsR w0 w' s ss R :=
  ⟨h.row.keep he fun _ _ e => e, h.len, fun i q r h1 h2 => ⟨(h.rows i q r h1 h2).1.keep he fun _ _ e => e, (h.rows i q r h1 h2).2⟩, h.apart, h.newR, h.newS, h.cl⟩
theorem RowsR.own_lt (h : RowsR w0 w s ss R) {q : Slc} (hq : q ∈ ss) {j : Nat} (hj : q.own j) : j < w.heap.size := by
  obtain ⟨i, hi⟩ := List.mem_iff_getElem?.1 hq
  have hlt := (List.getElem?_eq_some_iff.1 hi).1
  rw [h.len] at hlt
  obtain ⟨c, hb⟩ := own_blk (h.rows i q _ hi (List.getElem?_eq_getElem hlt)).1 hj
  exact hb.lt
/-- A row more, of one sign. -/
theorem RowsR.push (h : RowsR w0 w s ss R) (hw : w0.heap.size ≤ w.heap.size) {x : Sg} (hx : Cl x) (hl : R.length ≤ 2000000) {K : Slc → World → Prop}
    (k : ∀ s' w' ss', RowsR w0 w' s' ss' (R ++ [[x]]) → Ext s.own w w' → K s' w') :
    Nw w (.cells (scells x).toArray 61) fun w1 => Nw w1 (.cells #[Slc.v (⟨some ⟨w.heap.size, 0, none⟩, 1, 1⟩ : Slc)] 51) fun w2 =>
      Rn Tryd.prog (Builtin.append_ #[49, 49] 49 #[Slc.v s, Slc.v (⟨some ⟨w1.heap.size, 0, none⟩, 1, 1⟩ : Slc)]) w2 Slc.v K := by
  refine Nw.of (Nw.of ?_)
  have e1 : Ext (fun _ => False) w (w.alloc (.cells (scells x).toArray 61)) := (Ext.refl _ w).alloc _
  have e2 := e1.alloc (.cells #[Slc.v (⟨some ⟨w.heap.size, 0, none⟩, 1, 1⟩ : Slc)] 51)
  have rx : Row (w.alloc (.cells (scells x).toArray 61)) ⟨some ⟨w.heap.size, 0, none⟩, 1, 1⟩ 61 10 ([x].flatMap scells) := by
    have := Row.new w (scells x).toArray 61 10 1 rfl
    simpa using this
  have hc := h.count
  obtain ⟨s', w', hrun, hrow, hlen, hext, hown⟩ := elR.app1 (ty := 49) (ys := rcells ⟨some ⟨w.heap.size, 0, none⟩, 1, 1⟩) (h.row.keep e2 fun _ _ e => e) (Blk.new (w.alloc (.cells (scells x).toArray 61)) #[Slc.v (⟨some ⟨w.heap.size, 0, none⟩, 1, 1⟩ : Slc)] 51) rfl (rcells_one _) (by omega) (by omega)
  refine ⟨s', w', hrun, k s' w' (ss ++ [⟨some ⟨w.heap.size, 0, none⟩, 1, 1⟩]) ⟨?_, ?_, fun i q r h1 h2 => ?_, ?_, fun q hq j hj => ?_, fun j hj => ?_, fun r hr y hy => ?_⟩ (e2.trans hext (fun _ e => e.elim) fun _ _ e => e)⟩
  · rw [List.flatMap_append]
    simpa using hrow
  · rw [List.length_append, List.length_append, h.len]
    rfl
  · have hne : (51 : TypeId) ≠ 61 := by decide
    by_cases hi : i < ss.length
    · rw [List.getElem?_append_left hi] at h1
      rw [List.getElem?_append_left (by rw [← h.len]; exact hi)] at h2
      obtain ⟨a, b⟩ := h.rows i q r h1 h2
      exact ⟨(a.keep e2 fun _ _ e => e).keep hext fun j hj e => own_apart h.row a hne j e hj, b⟩
    · have : i = ss.length := by
        have := (List.getElem?_eq_some_iff.1 h1).1
        rw [List.length_append, List.length_singleton] at this
        omega
      subst this
      rw [List.getElem?_append_right (Nat.le_refl _), Nat.sub_self] at h1
      rw [h.len, List.getElem?_append_right (Nat.le_refl _), Nat.sub_self] at h2
      cases h1
      cases h2
      refine ⟨(rx.keep ((Ext.refl _ _).alloc _) fun _ _ e => e).keep hext fun j hj e => ?_, by simp⟩
      obtain ⟨a, ha, hb⟩ := hj
      cases ha
      have hb : w.heap.size = j := hb
      have := h.row.own_lt e
      omega
  · refine List.pairwise_append.2 ⟨h.apart, List.pairwise_singleton _ _, fun p hp q hq j hj e => ?_⟩
    rw [List.mem_singleton.1 hq] at e
    obtain ⟨a, ha, hb⟩ := e
    cases ha
    have hb : w.heap.size = j := hb
    have := h.own_lt hp hj
    omega
  · rcases List.mem_append.1 hq with hq | hq
    · exact h.newR q hq j hj
    · rw [List.mem_singleton.1 hq] at hj
      obtain ⟨a, ha, hb⟩ := hj
      cases ha
      have hb : w.heap.size = j := hb
      omega
  · rcases hown j hj with e | e
    · exact h.newS j e
    · have := e2.size
      omega
  · rcases List.mem_append.1 hr with hr | hr
    · exact h.cl r hr y hy
    · rw [List.mem_singleton.1 hr] at hy
      rw [List.mem_singleton.1 hy]
      exact hx
/-- The last row, one sign longer. -/
theorem RowsR.more {R0 : List (List Sg)} {c : List Sg} (h : RowsR w0 w s ss (R0 ++ [c])) (hw : w0.heap.size ≤ w.heap.size) {x : Sg} (hx : Cl x) (hl : (R0 ++ [c]).length ≤ 2000000) (hc : c.length ≤ 2000000) {q : Slc} (hq : ss[R0.length]? = some q) {K : World → Prop}
    (k : ∀ w' ss', RowsR w0 w' s ss' (R0 ++ [c ++ [x]]) → Ext (fun j => w0.heap.size ≤ j) w w' → K w') :
    Nw w (.cells (scells x).toArray 61) fun w1 => Rn Tryd.prog (Builtin.append_ #[51, 51] 51 #[Slc.v q, Slc.v (⟨some ⟨w.heap.size, 0, none⟩, 1, 1⟩ : Slc)]) w1 Slc.v fun (s' : Slc) w2 =>
      ∃ g, s.p = some ⟨g, 0, none⟩ ∧ St w2 ⟨g, R0.length, none⟩ (Slc.v s') K := by
  refine Nw.of ?_
  have hne : (51 : TypeId) ≠ 61 := by decide
  have e1 : Ext (fun _ => False) w (w.alloc (.cells (scells x).toArray 61)) := (Ext.refl _ w).alloc _
  obtain ⟨rq, _⟩ := h.rows R0.length q c hq (by rw [List.getElem?_append_right (Nat.le_refl _), Nat.sub_self]; rfl)
  have hql : q.len = c.length := VRow.count scells_len (by decide) (Row.view rq)
  have hqm : q ∈ ss := List.mem_of_getElem? hq
  have hlt : R0.length < ss.length := (List.getElem?_eq_some_iff.1 hq).1
  obtain ⟨s', w', hrun, hrow, hlen, hext, hown⟩ := elS.app1 (ty := 51) (ys := scells x) (rq.keep e1 fun _ _ e => e) (Blk.new w (scells x).toArray 61) rfl (scells_one x) (by omega) (by omega)
  refine ⟨s', w', hrun, ?_⟩
  -- the outer row holds
  have ho := (h.row.keep e1 fun _ _ e => e).keep hext fun j hj e => own_apart h.row rq hne j hj e
  have hsl := h.count
  rcases ho.2 with rfl | ⟨g, cur, hp, hg, hle, hsz, htk⟩
  · rw [List.length_append, List.length_singleton] at hsl
    exact absurd hsl (by show ¬ (0 = _); omega)
  rw [List.length_append, List.length_singleton] at hsl
  refine ⟨g, hp, ?_⟩
  have hset : (ss.set R0.length s').flatMap rcells = (ss.flatMap rcells).set R0.length (Slc.v s') := by
    have : ∀ l : List Slc, l.flatMap rcells = l.map Slc.v := fun l => by
      induction l with
      | nil => rfl
      | cons a l ih => rw [List.flatMap_cons, ih]; rfl
    rw [this, this, List.map_set]
  unfold St
  refine ⟨hg.can (by omega), k _ (ss.set R0.length s') ?_ ?_⟩
  · have eS : Ext (· = g) w' (w'.setCell ⟨g, R0.length, none⟩ (Slc.v s')) := (Ext.refl (· = g) w').set (.inl rfl) _
    have gnew : w0.heap.size ≤ g := h.newS g ⟨_, hp, rfl⟩
    have gty : ∀ {p : Slc} {ys : List Value}, Row w' p 61 10 ys → ∀ j, p.own j → ¬ j = g := fun hr j hj e => by
      subst e
      exact own_apart ho hr hne j ⟨_, hp, rfl⟩ hj
    have sown : ∀ j, s'.own j → q.own j ∨ w.heap.size ≤ j := fun j hj => by
      rcases hown j hj with e | e
      · exact .inl e
      · have := e1.size; exact .inr (by omega)
    refine ⟨⟨by rw [hset, List.length_set]; exact h.row.1, .inr ⟨g, _, hp, hg.set R0.length _, hle, by simpa using hsz, ?_⟩⟩, ?_, fun i p r h1 h2 => ?_, ?_, fun p hp' j hj => ?_, h.newS, fun r hr y hy => ?_⟩
    · rw [Array.toList_setIfInBounds, List.take_set, htk, hset]
    · rw [List.length_set, h.len, List.length_append, List.length_append]
      rfl
    · by_cases hi : i = R0.length
      · subst hi
        rw [List.getElem?_set_self hlt] at h1
        rw [List.getElem?_append_right (Nat.le_refl _), Nat.sub_self] at h2
        cases h1
        cases h2
        have hrow' : Row w' s' 61 10 ((c ++ [x]).flatMap scells) := by
          rw [List.flatMap_append]
          simpa using hrow
        exact ⟨hrow'.keep eS (gty hrow'), by simp⟩
      · rw [List.getElem?_set_ne (fun e => hi e.symm)] at h1
        have h2 : (R0 ++ [c])[i]? = some r := by
          have hi2 : i < R0.length := by
            have := (List.getElem?_eq_some_iff.1 h2).1
            rw [List.length_append, List.length_singleton] at this
            omega
          rw [List.getElem?_append_left hi2] at h2 ⊢
          exact h2
        obtain ⟨a, b⟩ := h.rows i p r h1 h2
        have ha := (a.keep e1 fun _ _ e => e).keep hext fun j hj e => by
          have hpw := h.apart
          rcases Nat.lt_or_ge i R0.length with hlt2 | hge
          · have hii := (List.getElem?_eq_some_iff.1 h1)
            have hjj := (List.getElem?_eq_some_iff.1 hq)
            have := List.pairwise_iff_getElem.1 hpw i R0.length hii.1 hjj.1 hlt2
            rw [hii.2, hjj.2] at this
            exact this j hj e
          · have hii := (List.getElem?_eq_some_iff.1 h1)
            have hjj := (List.getElem?_eq_some_iff.1 hq)
            have := List.pairwise_iff_getElem.1 hpw R0.length i hjj.1 hii.1 (by omega)
            rw [hii.2, hjj.2] at this
            exact this j e hj
        exact ⟨ha.keep eS (gty ha), b⟩
    · refine List.pairwise_iff_getElem.2 fun i j hi hj hij b h1 h2 => ?_
      rw [List.length_set] at hi hj
      have hpw := List.pairwise_iff_getElem.1 h.apart
      rw [List.getElem_set] at h1 h2
      have hqe := (List.getElem?_eq_some_iff.1 hq).2
      split at h1
      · rename_i ei
        split at h2
        · omega
        · rcases sown b h1 with e | e
          · have := hpw R0.length j hlt hj (by omega) b
            rw [hqe] at this
            exact this e h2
          · have := h.own_lt (List.getElem_mem hj) h2
            omega
      · split at h2
        · rcases sown b h2 with e | e
          · have := hpw i R0.length hi hlt (by omega) b h1
            rw [hqe] at this
            exact this e
          · have := h.own_lt (List.getElem_mem hi) h1
            omega
        · exact hpw i j hi hj hij b h1 h2
    · rcases List.mem_or_eq_of_mem_set hp' with hm | rfl
      · exact h.newR p hm j hj
      · rcases sown j hj with e | e
        · exact h.newR q hqm j e
        · omega
    · rcases List.mem_append.1 hr with hr | hr
      · exact h.cl r (List.mem_append_left _ hr) y hy
      · rw [List.mem_singleton.1 hr] at hy
        rcases List.mem_append.1 hy with hy | hy
        · exact h.cl c (by simp) y hy
        · rw [List.mem_singleton.1 hy]
          exact hx
  · refine ((e1.mono fun _ _ e => e.elim).tr (hext.mono fun j _ e => h.newR q hqm j e)).set (.inl (h.newS g ⟨_, hp, rfl⟩)) _
end
end Rdg
end Go.Proofs.YtodhdkbhmkinjaaDoor
