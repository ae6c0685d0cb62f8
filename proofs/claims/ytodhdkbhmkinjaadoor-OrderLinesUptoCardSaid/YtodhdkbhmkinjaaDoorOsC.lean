/- Reading order: the signs of all glyphs, sorted by Y. Conditions: sizes. -/
import Derived.Test.YtodhdkbhmkinjaaDoorSsX
namespace Go.Proofs.YtodhdkbhmkinjaaDoor
namespace Rdg
open Sh
set_option linter.unusedVariables false
set_option linter.unusedSimpArgs false
set_option maxRecDepth 4000
set_option maxHeartbeats 2000000
theorem LdT.any {w : World} {a : Addr} : ∀ (ts : List Ty1) (i : Nat) (x : Sig ts) (K : Sig ts → Prop), (∀ j v, (Sig.cells ts x)[j]? = some v → w.cell? (a.add (i + j)) = some v) → K x → LdT w a i ts K
  | [], _, _, _, _, k => k
  | [t], i, x, K, h, k => Ld.mk (x := x) (h 0 (t.v x) rfl) k
  | t :: u :: r, i, x, K, h, k => Ld.mk (x := x.1) (h 0 (t.v x.1) rfl) (LdT.any (u :: r) (i + 1) x.2 (fun y => K (x.1, y)) (fun j v hj => by
      have := h (j + 1) v hj
      rw [show i + 1 + j = i + (j + 1) by omega]
      exact this) k)
/-- The signs of the glyphs that have text. -/
def allN : Nat → List Sg → List Sg
  | _, [] => []
  | i, g :: r => (if g.s.size = 0 then [] else [clampS g i]) ++ allN (i + 1) r
def allF (L : List Sg) : List Sg := allN 0 L
theorem allN_cons (i : Nat) (g : Sg) (r : List Sg) : allN i (g :: r) = (if g.s.size = 0 then [] else [clampS g i]) ++ allN (i + 1) r := rfl
theorem allN_app : ∀ (i : Nat) (l m : List Sg), allN i (l ++ m) = allN i l ++ allN (i + l.length) m
  | i, [], m => by simp [allN]
  | i, g :: l, m => by
    rw [List.cons_append, allN_cons, allN_cons, allN_app, List.append_assoc, List.length_cons, show i + 1 + l.length = i + (l.length + 1) by omega]
theorem allF_snoc {L : List Sg} {i : Nat} (h : i < L.length) : allF (L.take (i + 1)) = allF (L.take i) ++ if L[i].s.size = 0 then [] else [clampS L[i] i] := by
  unfold allF
  rw [List.take_add_one, List.getElem?_eq_getElem h, Option.toList_some, allN_app, Nat.zero_add, List.length_take, Nat.min_eq_left (by omega)]
  simp [allN]
theorem allN_at : ∀ (i : Nat) (L : List Sg), ∀ x ∈ allN i L, i ≤ x.at' ∧ x.s.size ≠ 0 ∧ Cl x ∧ ∃ g ∈ L, x.s = g.s
  | i, [], x, h => by cases h
  | i, g :: L, x, h => by
    unfold allN at h
    rcases List.mem_append.1 h with h | h
    · split at h
      · cases h
      · rename_i hs
        rw [List.mem_singleton.1 h]
        exact ⟨Nat.le_refl _, hs, clamp_cl g i, g, List.mem_cons_self, rfl⟩
    · obtain ⟨h1, h2, h3, g', h4, h5⟩ := allN_at (i + 1) L x h
      exact ⟨by omega, h2, h3, g', List.mem_cons_of_mem _ h4, h5⟩
theorem allN_up : ∀ (i : Nat) (L : List Sg), (allN i L).Pairwise fun a b => a.at' < b.at'
  | i, [] => List.Pairwise.nil
  | i, g :: L => by
    unfold allN
    refine List.pairwise_append.2 ⟨?_, allN_up (i + 1) L, fun a ha b hb => ?_⟩
    · split
      · exact List.Pairwise.nil
      · exact List.pairwise_singleton _ _
    · have := (allN_at (i + 1) L b hb).1
      split at ha
      · cases ha
      · rw [List.mem_singleton.1 ha]
        show i < b.at'
        omega
theorem allN_len : ∀ (i : Nat) (L : List Sg), (allN i L).length ≤ L.length
  | i, [] => Nat.le_refl _
  | i, g :: L => by
    have := allN_len (i + 1) L
    unfold allN
    rw [List.length_append, List.length_cons]
    split
    · simp only [List.length_nil]; omega
    · simp only [List.length_singleton]; omega
theorem allF_apart (L : List Sg) : Apart (allF L) := (allN_up 0 L).imp fun {a b} h => by omega
theorem elS : El Tryd.prog 51 61 10 96 (.agg (scells ⟨0, ⟨#[]⟩, 0, 0, 0, 0, 0, ⟨#[]⟩, 0, 0⟩).toArray) := ⟨by kernel_rfl, by kernel_rfl, by kernel_rfl, by kernel_rfl, rfl⟩
theorem elR : El Tryd.prog 49 51 1 24 (.slice none 0 0) := ⟨by kernel_rfl, by kernel_rfl, by kernel_rfl, by kernel_rfl, rfl⟩
theorem scells_one (x : Sg) : ∀ v ∈ scells x, v.oneCell' = true := fun v hv => by
  simp only [scells, gcells, List.mem_append, List.mem_cons, List.not_mem_nil, or_false] at hv
  rcases hv with (rfl | rfl | rfl | rfl | rfl | rfl | rfl | rfl | rfl) | rfl <;> rfl
/-- What is known of a list that a sort has been given. -/
theorem sort_in {w : World} {s : Slc} {A : List Sg} (h : Row w s 61 10 (A.flatMap scells)) (hl : A.length ≤ 2000000) (hup : A.Pairwise fun a b => a.at' < b.at') :
    C39 s (.func (.func 40) #[] #[]) w fun w1 => Ext s.own w w1 ∧ Row w1 s 61 10 ((sortI ltY A).flatMap scells) := by
  have hT : ∀ i e, ((List.range A.length).map fun i => ((i, i) : Srt.E))[i]? = some e → e = (i, i) ∧ i < A.length := fun i e he => by
    rw [List.getElem?_map] at he
    obtain ⟨j, hj, rfl⟩ := Option.map_eq_some_iff.1 he
    obtain ⟨hlt, rfl⟩ := List.getElem?_eq_some_iff.1 hj
    simp only [List.length_range] at hlt
    simp only [List.getElem_range]
    exact ⟨trivial, hlt⟩
  have hel : ((List.range A.length).map fun i => ((i, i) : Srt.E)).map (Ssr.el A) = A := by
    refine List.ext_getElem? fun i => ?_
    rw [List.map_map, List.getElem?_map]
    by_cases hi : i < A.length
    · rw [List.getElem?_range hi, List.getElem?_eq_getElem hi]
      show some (A.getD i default) = _
      rw [List.getD_eq_getElem?_getD, List.getElem?_eq_getElem hi]
      rfl
    · rw [List.getElem?_eq_none (by rw [List.length_range]; omega), List.getElem?_eq_none (by omega)]
      rfl
  have hrw : ∀ T : List Srt.E, Ssr.rw10 A T = (T.map (Ssr.el A)).flatMap scells := fun T => by unfold Ssr.rw10; rw [List.flatMap_map]
  have HS : Ssr.SS w s ((List.range A.length).map fun i => ((i, i) : Srt.E)) A (fun i => -(A.getD i default).fy) := by
    refine ⟨?_, fun e _ => rfl, by simpa using hl⟩
    unfold Ssr.PR
    rw [hrw, hel]
    exact h
  have htag : ((List.range A.length).map fun i => ((i, i) : Srt.E)).Pairwise fun x y => x.2 < y.2 := by
    refine List.pairwise_map.2 ?_
    exact List.pairwise_lt_range
  refine (Ssr.c_sort HS htag).mono ?_
  rintro w1 ⟨e1, T', hp, hs, H1⟩
  refine ⟨e1, ?_⟩
  have hrow := H1.row
  unfold Ssr.PR at hrow
  rw [hrw] at hrow
  have hperm : (T'.map (Ssr.el A)).Perm A := by
    have := hp.map (Ssr.el A)
    rwa [hel] at this
  have hmem : ∀ e ∈ T', e.1 = e.2 ∧ e.1 < A.length := fun e he => by
    obtain ⟨i, hi⟩ := List.mem_iff_getElem?.1 (hp.mem_iff.1 he)
    obtain ⟨rfl, hlt⟩ := hT i e hi
    exact ⟨rfl, hlt⟩
  have hso : (T'.map (Ssr.el A)).Pairwise fun a b => ltY a b = true := by
    refine List.pairwise_map.2 (List.Pairwise.imp_of_mem ?_ hs)
    intro a b ha hb hab
    obtain ⟨a1, a2⟩ := hmem a ha
    obtain ⟨b1, b2⟩ := hmem b hb
    unfold ltY Ssr.el
    simp only [decide_eq_true_eq]
    unfold Srt.lt at hab
    dsimp only at hab
    rcases hab with h | ⟨h1, h2⟩
    · exact .inl (by omega)
    · refine .inr ⟨by omega, ?_⟩
      have := List.pairwise_iff_getElem.1 hup a.1 b.1 a2 b2 (by omega)
      rw [List.getD_eq_getElem?_getD, List.getElem?_eq_getElem a2, List.getD_eq_getElem?_getD, List.getElem?_eq_getElem b2]
      exact this
  rw [sortI_eq ltY ltY_trans ltY_irr (Apart.y (hup.imp fun {a b} h => by omega)) hperm hso]
  exact hrow
end Rdg
end Go.Proofs.YtodhdkbhmkinjaaDoor
