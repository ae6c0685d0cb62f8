/- Reading order: Lines and Words. Conditions: sizes. -/
import Derived.Test.YtodhdkbhmkinjaaDoorOsF
namespace Go.Proofs.YtodhdkbhmkinjaaDoor
namespace Rdg
open Sh
set_option linter.unusedVariables false
set_option linter.unusedSimpArgs false
set_option maxRecDepth 4000
set_option maxHeartbeats 2000000
attribute [local irreducible] Ld St Nw Nn Lt LdS
theorem lets_perm {l m : List Sg} (h : l.Perm m) : lets l = lets m := by
  unfold lets
  exact (h.map _).sum_nat
theorem lets_app (l m : List Sg) : lets (l ++ m) = lets l + lets m := by unfold lets; rw [List.map_append, List.sum_append]
theorem lets_all : ∀ (i : Nat) (L : List Sg), lets (allN i L) ≤ lets L
  | _, [] => Nat.le_refl _
  | i, g :: r => by
    have := lets_all (i + 1) r
    rw [allN_cons, lets_app, show g :: r = [g] ++ r from rfl, lets_app]
    split
    · have : lets [] = 0 := rfl
      omega
    · have : lets [clampS g i] = lets [g] := rfl
      omega
theorem mem_flat {R : List (List Sg)} {r : List Sg} (h : r ∈ R) : lets r ≤ lets R.flatten ∧ r.length ≤ R.flatten.length := by
  induction R with
  | nil => cases h
  | cons a R ih =>
    rw [List.flatten_cons, lets_app, List.length_append]
    rcases List.mem_cons.1 h with rfl | h
    · omega
    · have := ih h
      omega
theorem rows_size {l : List Sg} {r : List Sg} (h : r ∈ rowsF l) : lets r ≤ lets l ∧ r.length ≤ l.length := by
  unfold rowsF at h
  obtain ⟨q, hq, rfl⟩ := List.mem_map.1 h
  have h1 := sortI_perm ltX q
  have h2 := mem_flat hq
  rw [splitF_flat _ _ (Nat.le_refl _)] at h2
  have h3 := sortI_perm ltY l
  have h4 := lets_perm h1
  have h5 := lets_perm h3
  have h6 := h1.length_eq
  have h7 := h3.length_eq
  omega
theorem rows_count : ∀ (n : Nat) (l : List Sg), (splitF n l).length ≤ n
  | 0, l => Nat.le_refl _
  | n + 1, [] => Nat.zero_le _
  | n + 1, x :: l => by
    unfold splitF
    rw [List.length_cons]
    have := rows_count n (l.dropWhile (near x))
    omega
theorem rowsF_count (l : List Sg) : (rowsF l).length ≤ l.length := by
  unfold rowsF
  rw [List.length_map]
  have := rows_count (sortI ltY l).length (sortI ltY l)
  have := (sortI_perm ltY l).length_eq
  omega
/-- The lines of rows. -/
def liF (R : List (List Sg)) : List Ln := (R.map lineF).filter fun x => !x.words.isEmpty
theorem liF_snoc {R : List (List Sg)} {i : Nat} (h : i < R.length) : liF (R.take (i + 1)) = liF (R.take i) ++ if (wordsF R[i]).isEmpty then [] else [lineF R[i]] := by
  unfold liF
  rw [take_one h, List.map_append, List.filter_append]
  congr 1
  rw [List.map_singleton, List.filter_cons, List.filter_nil]
  show (if (!(wordsF R[i]).isEmpty) = true then _ else _) = _
  cases (wordsF R[i]).isEmpty <;> rfl
theorem liF_len (R : List (List Sg)) : (liF R).length ≤ R.length := by
  unfold liF
  have := List.length_filter_le (fun x : Ln => !x.words.isEmpty) (R.map lineF)
  rwa [List.length_map] at this
/-- The lines while they grow. -/
structure LsR (w0 w : World) (s : Slc) (L : List Ln) (ss : List Slc) : Prop where
  len : ss.length = L.length
  row : Row w s 40 5 ((ss.zip (L.map Ln.box)).flatMap lcells)
  words : ∀ (i : Nat) (x : Ln) (q : Slc), L[i]? = some x → ss[i]? = some q → Row w q 44 5 (x.words.flatMap wcells)
  new : ∀ j, s.own j → w0.heap.size ≤ j
theorem LsR.keep {w0 w w' : World} {s : Slc} {L : List Ln} {ss : List Slc} (h : LsR w0 w s L ss) (he : Ext (fun _ => False) w w') : LsR w0 w' s L ss :=
  ⟨h.len, h.row.keep he fun _ _ e => e, fun i x q h1 h2 => (h.words i x q h1 h2).keep he fun _ _ e => e, h.new⟩
theorem LsR.count {w0 w : World} {s : Slc} {L : List Ln} {ss : List Slc} (h : LsR w0 w s L ss) : s.len = L.length := by
  rw [VRow.count lcells_len (by decide) (Row.view h.row), List.length_zip, List.length_map, h.len, Nat.min_self]
theorem zip_snoc {α β : Type} {l : List α} {m : List β} (h : l.length = m.length) (a : α) (b : β) : (l ++ [a]).zip (m ++ [b]) = l.zip m ++ [(a, b)] := by
  rw [List.zip_append h]
  rfl
theorem c_Lines {w : World} {s : Slc} {L : List Sg} (hG : GsV w s L) : C9 s w fun r w1 => (∃ ss, LsV w1 r (linesF (allF L)) ss) ∧ Ext (fun _ => False) w w1 := by
  refine T9 _ _ _ ?_
  unfold S9
  refine (c_rows hG hG.most).mono ?_
  rintro r2 w3 ⟨⟨ss, hR⟩, e3⟩
  have hlin : linesF (allF L) = liF (rowsF (allF L)) := rfl
  rw [hlin]
  have hsz : ∀ r ∈ rowsF (allF L), lets r ≤ 1048576 ∧ r.length ≤ 1048576 ∧ ∀ x ∈ r, Cl x := fun r hr => by
    have h1 := rows_size hr
    have h2 := lets_all 0 L
    have h3 := allN_len 0 L
    have h4 := hG.lets
    have h5 := hG.most
    unfold allF at h1
    exact ⟨by omega, by omega, fun x hx => (allN_at 0 L x (rowsF_mem hr x hx)).2.2.1⟩
  have hcnt : (rowsF (allF L)).length ≤ 1048576 := by
    have h1 := rowsF_count (allF L)
    have h3 := allN_len 0 L
    have h5 := hG.most
    unfold allF at h1 ⊢
    omega
  generalize rowsF (allF L) = R at *
  have hr2 : r2.len = R.length := by rw [VRow.count rcells_len (by decide) hR.row, hR.len]
  refine ⟨fun m st w1 => ∃ (i : Nat) (sl : List Slc), st.2 = (i : Int) ∧ i ≤ R.length ∧ m = R.length - i ∧ LsR w3 w1 st.1 (liF (R.take i)) sl ∧ Ext (fun _ => False) w3 w1, R.length, ⟨0, [], rfl, Nat.zero_le _, rfl, ⟨rfl, Row.nil _ _ _, fun i x q h h2 => (by simp at h2), fun j hj => (no_own j hj).elim⟩, Ext.refl _ _⟩, ?_⟩
  rintro m ⟨so, i'⟩ w5 ⟨i, sl, hi', hi, rfl, I, e5⟩
  simp only at hi' I
  subst hi'
  unfold S9L1
  dsimp only
  rw [hr2]
  refine Br.dec (fun q => ?_) fun q => ?_
  · have hil : i < R.length := by omega
    have his : i < ss.length := by rw [hR.len]; exact hil
    obtain ⟨a, ha, hc⟩ := VRow.elem rcells_len (hR.row.keep e5) (List.getElem?_eq_getElem his) (by decide)
    have hq := hR.rows i _ _ (List.getElem?_eq_getElem his) (List.getElem?_eq_getElem hil)
    obtain ⟨s1, s2, s3⟩ := hsz _ (List.getElem_mem hil)
    have hsn := liF_snoc hil
    generalize R[i] = r at *
    generalize ss[i] = p at *
    rw [ha]
    refine ⟨by omega, by omega, Nn.of ?_⟩
    rw [Int.toNat_natCast]
    refine Ld.mk (x := p) (hc 0 _ rfl) ?_
    refine (c_line (hq.keep e5) s2 s3 s1).mono ?_
    rintro r9 b10 w11 ⟨⟨ws, rfl, hW, rfl⟩, e11⟩
    refine (Hn.start w11).nw fun w12 H => ?_
    have H : Hn w11 w12 [(w11.heap.size, lcells (⟨none, 0, 0⟩, zB), 40)] := H
    refine stLn (p := (ws, (lineF r).box)) H 0 rfl fun w13 H => ?_
    simp only [List.set_cons_zero] at H
    have next : ∀ (s' : Slc) (w' : World) (sl' : List Slc), LsR w3 w' s' (liF (R.take (i + 1))) sl' → Ext (fun _ => False) w3 w' → ∃ n', n' < R.length - i ∧ ∃ (i_1 : Nat) (sl : List Slc), IntKind.i64.wrap ((i : Int) + 1) = (i_1 : Int) ∧ i_1 ≤ R.length ∧ n' = R.length - i_1 ∧ LsR w3 w' s' (liF (R.take i_1)) sl ∧ Ext (fun _ => False) w3 w' := fun s' w' sl' h1 h2 =>
      ⟨R.length - (i + 1), by omega, i + 1, sl', by rw [i64_id (by omega)]; rfl, by omega, rfl, h1, h2⟩
    have I3 := I.keep (e11.tr H.ext)
    have E13 := e5.tr (e11.tr H.ext)
    cases hb : (wordsF r).isEmpty with
    | true =>
      rw [hb, if_pos rfl, List.append_nil] at hsn
      refine Br.f rfl (next so w13 sl ?_ E13)
      rw [hsn]
      exact I3
    | false =>
      rw [hb, if_neg (by decide)] at hsn
      refine Br.t rfl (ldLn H 0 rfl ?_)
      have hW3 := hW.keep H.ext fun _ _ e => e
      have hcI := I3.count
      have hlI := liF_len (R.take i)
      rw [List.length_take] at hlI
      have e1 := (Ext.refl (fun _ => False) w13).alloc (.cells (lcells (ws, (lineF r).box)).toArray 40)
      refine Nw.of ?_
      obtain ⟨s', w', hrun, hrow, hlen', hext, hown⟩ := elL.app1 (ty := 24) (ys := lcells (ws, (lineF r).box)) (I3.row.keep e1 fun _ _ e => e) (Blk.new w13 (lcells (ws, (lineF r).box)).toArray 40) rfl (lcells_one _) (by omega) (by omega)
      have hne : (40 : TypeId) ≠ 44 := by decide
      refine ⟨s', w', hrun, next s' w' (sl ++ [ws]) ⟨?_, ?_, fun k x q' h1 h2 => ?_, fun j hj => ?_⟩ (ext_new (E13.tr e1) hext I3.new)⟩
      · rw [hsn, List.length_append, List.length_append, I.len]
        rfl
      · rw [hsn, List.map_append, List.map_singleton, zip_snoc (by rw [List.length_map, I.len]), List.flatMap_append]
        simpa using hrow
      · rw [hsn] at h1
        have old : Row (w13.alloc (.cells (lcells (ws, (lineF r).box)).toArray 40)) q' 44 5 (x.words.flatMap wcells) := by
          by_cases hk : k < (liF (R.take i)).length
          · rw [List.getElem?_append_left hk] at h1
            rw [List.getElem?_append_left (by rw [I.len]; exact hk)] at h2
            exact (I3.words k x q' h1 h2).keep e1 fun _ _ e => e
          · have hk2 : k = (liF (R.take i)).length := by
              have := (List.getElem?_eq_some_iff.1 h1).1
              rw [List.length_append, List.length_singleton] at this
              omega
            subst hk2
            rw [List.getElem?_append_right (Nat.le_refl _), Nat.sub_self] at h1
            rw [List.getElem?_append_right (by rw [I.len]; exact Nat.le_refl _), I.len, Nat.sub_self] at h2
            cases h1
            cases h2
            exact hW3.keep e1 fun _ _ e => e
        exact old.keep hext fun j hj e => own_apart (I3.row.keep e1 fun _ _ e => e) old hne j e hj
      · rcases hown j hj with e | e
        · exact I3.new j e
        · have := (E13.tr e1).size
          omega
  · have : i = R.length := by omega
    subst this
    rw [List.take_length] at I
    exact ⟨⟨sl, I.len, Row.view I.row, fun i x q h1 h2 => Row.view (I.words i x q h1 h2)⟩, e3.tr e5⟩
end Rdg
end Go.Proofs.YtodhdkbhmkinjaaDoor
