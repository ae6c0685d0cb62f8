/- Reading order: Words. Conditions: sizes. -/
import Derived.Test.YtodhdkbhmkinjaaDoorOsI
namespace Go.Proofs.YtodhdkbhmkinjaaDoor
namespace Rdg
open Sh
set_option linter.unusedVariables false
set_option linter.unusedSimpArgs false
set_option maxRecDepth 4000
set_option maxHeartbeats 2000000
attribute [local irreducible] Ld St Nw Nn Lt LdS
theorem wordsF_len (r : List Sg) : (wordsF r).length ≤ r.length ∧ letsW (wordsF r) ≤ lets r := by
  obtain ⟨h1, h2⟩ := letsW_at r r.length (Nat.le_refl _)
  rw [List.take_length] at h1
  rw [wordsF_at]
  refine ⟨by rw [List.length_reverse]; exact h2, ?_⟩
  have : letsW (wsAt r r.length).reverse = letsW (wsAt r r.length) := by
    unfold letsW
    exact ((List.reverse_perm _).map _).sum_nat
  omega
theorem fm_len {α β : Type} (f g : List α → List β) (k : List α → List α) (R : List (List α)) (h : ∀ r, (f (k r)).length ≤ r.length) : ((R.map k).flatMap f).length ≤ R.flatten.length := by
  induction R with
  | nil => exact Nat.le_refl _
  | cons r R ih =>
    rw [List.map_cons, List.flatMap_cons, List.flatten_cons, List.length_append, List.length_append]
    have := h r
    omega
theorem allW_len (l : List Sg) : (allW l).length ≤ l.length := by
  rw [allW_eq]
  unfold rowsF
  have h1 := fm_len wordsF wordsF (sortI ltX) (splitF (sortI ltY l).length (sortI ltY l)) fun r => by
    have := (wordsF_len (sortI ltX r)).1
    rw [(sortI_perm ltX r).length_eq] at this
    exact this
  rw [splitF_flat _ _ (Nat.le_refl _)] at h1
  have := (sortI_perm ltY l).length_eq
  omega
theorem fm_take {α β : Type} (f : α → List β) (M : List α) (i : Nat) : ((M.take i).flatMap f).length ≤ (M.flatMap f).length := by
  conv => rhs; rw [← List.take_append_drop i M, List.flatMap_append, List.length_append]
  omega
theorem ldLA {w : World} {a : Addr} {p : Slc × R4} {K : TyA39 → Prop} (h : ∀ j c, (lcells p)[j]? = some c → w.cell? (a.add j) = some c) (k : K (lt5 p)) : LdT w a 0 LiA39 K := LdT.any LiA39 0 (lt5 p) K (fun j c hj => by rw [Nat.zero_add]; exact h j c hj) k
theorem flat_one {ws : List Wd} : ∀ c ∈ ws.flatMap wcells, c.oneCell' = true := fun c hc => by
  obtain ⟨v, _, hv⟩ := List.mem_flatMap.1 hc
  exact wcells_one v c hv
/-- A line of lines that can be read. -/
theorem LsV.at {w : World} {s : Slc} {M : List Ln} {ss : List Slc} (h : LsV w s M ss) {i : Nat} {x : Ln} (hi : M[i]? = some x) : ∃ a q, s.p = some a ∧ ss[i]? = some q ∧ WsV w q x.words ∧ ∀ j c, (lcells (q, x.box))[j]? = some c → w.cell? (a.add (i * 5 + j)) = some c := by
  have hlt := (List.getElem?_eq_some_iff.1 hi).1
  have hs : i < ss.length := by rw [h.len]; exact hlt
  have hz : (ss.zip (M.map Ln.box))[i]? = some (ss[i], x.box) := by
    rw [List.getElem?_zip_eq_some]
    exact ⟨List.getElem?_eq_getElem hs, by rw [List.getElem?_map, hi]; rfl⟩
  obtain ⟨a, ha, hc⟩ := VRow.elem lcells_len h.row hz (by decide)
  exact ⟨a, ss[i], ha, List.getElem?_eq_getElem hs, h.words i x _ hi (List.getElem?_eq_getElem hs), hc⟩
theorem LsV.count {w : World} {s : Slc} {M : List Ln} {ss : List Slc} (h : LsV w s M ss) : s.len = M.length := by
  rw [VRow.count lcells_len (by decide) h.row, List.length_zip, List.length_map, h.len, Nat.min_self]
theorem LsV.keep {w w' : World} {s : Slc} {M : List Ln} {ss : List Slc} (h : LsV w s M ss) (he : Ext (fun _ => False) w w') : LsV w' s M ss :=
  ⟨h.len, h.row.keep he, fun i x q h1 h2 => (h.words i x q h1 h2).keep he⟩
theorem WsV.count {w : World} {s : Slc} {ws : List Wd} (h : WsV w s ws) : s.len = ws.length := VRow.count wcells_len (by decide) h
theorem c_Words {w : World} {s : Slc} {L : List Sg} (hG : GsV w s L) : C15 s w fun r w1 => WsV w1 r (allW (allF L)) ∧ Ext (fun _ => False) w w1 := by
  refine T15 _ _ _ ?_
  unfold S15
  refine (c_Lines hG).mono ?_
  rintro r2 w3 ⟨⟨ss, hL⟩, e3⟩
  have hm : ((linesF (allF L)).flatMap Ln.words).length ≤ 1048576 := by
    have h1 : ((linesF (allF L)).flatMap Ln.words).length ≤ (allF L).length := allW_len (allF L)
    have h3 : (allF L).length ≤ L.length := allN_len 0 L
    have h5 := hG.most
    omega
  have hmn : (linesF (allF L)).length ≤ 1048576 := by
    have h1 : (linesF (allF L)).length ≤ (rowsF (allF L)).length := liF_len _
    have h2 := rowsF_count (allF L)
    have h3 := allN_len 0 L
    have h5 := hG.most
    unfold allF at h1 h2 ⊢
    omega
  unfold allW
  generalize linesF (allF L) = M at *
  have hr2 := hL.count
  refine ⟨fun m st w1 => ∃ i : Nat, st.2 = (i : Int) ∧ i ≤ M.length ∧ m = M.length - i ∧ Row w1 st.1 44 5 (((M.take i).flatMap Ln.words).flatMap wcells) ∧ (∀ j, st.1.own j → w3.heap.size ≤ j) ∧ Ext (fun _ => False) w3 w1, M.length, ⟨0, rfl, Nat.zero_le _, rfl, Row.nil _ _ _, fun j hj => (no_own j hj).elim, Ext.refl _ _⟩, ?_⟩
  rintro m ⟨so, i'⟩ w5 ⟨i, hi', hi, rfl, hR, ho, e5⟩
  simp only at hi' hR ho
  subst hi'
  unfold S15L1
  dsimp only
  rw [hr2]
  refine Br.dec (fun q => ?_) fun q => ?_
  · have hil : i < M.length := by omega
    obtain ⟨a, p, ha, hp, hW, hc⟩ := (hL.keep e5).at (List.getElem?_eq_getElem hil)
    have htk := take_one hil
    have h1 := fm_take Ln.words M (i + 1)
    rw [htk, List.flatMap_append, List.length_append] at h1
    have h2 : ([M[i]].flatMap Ln.words) = M[i].words := by simp
    rw [h2] at h1
    have hfl : ((M.take (i + 1)).flatMap Ln.words).flatMap wcells = ((M.take i).flatMap Ln.words).flatMap wcells ++ (M[i].words).flatMap wcells := by rw [htk, List.flatMap_append, h2, List.flatMap_append]
    generalize M[i] = x at *
    rw [ha]
    refine ⟨by omega, by omega, Nn.of ?_⟩
    rw [Int.toNat_natCast]
    refine ldLA (p := (p, x.box)) (fun j c hj => by rw [add_add']; exact hc j c hj) ?_
    refine (Hn.start w5).nw fun w12 H => ?_
    have H : Hn w5 w12 [(w5.heap.size, lcells (⟨none, 0, 0⟩, zB), 40)] := H
    refine stLn (p := (p, x.box)) H 0 rfl fun w13 H => ?_
    simp only [List.set_cons_zero] at H
    refine H.ld 0 rfl (x := p) rfl ?_
    have hW2 : WsV w13 p x.words := hW.keep H.ext
    have hpc := hW2.count
    have hso : so.len = ((M.take i).flatMap Ln.words).length := VRow.count wcells_len (by decide) (Row.view hR)
    obtain ⟨s', w', hrun, hrow, hlen', hext, hown⟩ := elW.app (ty := 35) (hR.keep H.ext fun _ _ e => e) hW2 flat_one (by omega) (by omega)
    refine ⟨s', w', hrun, M.length - (i + 1), by omega, i + 1, by rw [i64_id (by omega)]; rfl, by omega, rfl, by rw [hfl]; exact hrow, fun j hj => ?_, ext_new (e5.tr H.ext) hext ho⟩
    rcases hown j hj with e | e
    · exact ho j e
    · have := (e5.tr H.ext).size
      omega
  · have : i = M.length := by omega
    subst this
    rw [List.take_length] at hR
    exact ⟨Row.view hR, e3.tr e5⟩
end Rdg
end Go.Proofs.YtodhdkbhmkinjaaDoor
