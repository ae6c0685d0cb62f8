/- Order's laws: Moves. Conditions: sizes. -/
import Derived.Test.YtodhdkbhmkinjaaDoorOsP
namespace Go.Proofs.YtodhdkbhmkinjaaDoor
namespace Rdg
open Sh
set_option linter.unusedVariables false
set_option linter.unusedSimpArgs false
set_option maxRecDepth 4000
set_option maxHeartbeats 4000000
attribute [local irreducible] Ld St Nw Nn Lt LdS
theorem c_livesT {w0 w : World} (he : Ext (fun _ => False) w0 w) : C8 w fun r w1 => r = true ∧ Ext (fun _ => False) w0 w1 := by
  refine (c_lives w).mono ?_
  rintro r w5 ⟨rfl, e5⟩
  exact ⟨rfl, he.tr e5⟩
theorem c_Moves {w : World} {s : Slc} {L : List Sg} (hG : GsV w s L) (dx dy : Int) : C6 s dx dy w fun r w1 => r = true ∧ Ext (fun _ => False) w w1 := by
  have hlen : s.len = L.length := VRow.count gcells_len (by decide) hG.row
  have hmost := hG.most
  refine T6 _ _ _ _ _ ?_
  unfold S6
  refine Br.dec (fun _ => ?_) fun _ => ?_
  · exact c_livesT (Ext.refl _ w)
  refine (c_within dx w).mono ?_
  rintro r w17 ⟨rfl, rfl⟩
  cases hdx : nB dx with
  | false => exact Br.t rfl (c_livesT (Ext.refl _ w17))
  | true =>
  refine Br.f rfl ?_
  have hx := (nB_iff dx).1 hdx
  refine (c_within dy w17).mono ?_
  rintro r w ⟨rfl, rfl⟩
  cases hdy : nB dy with
  | false => exact Br.t rfl (c_livesT (Ext.refl _ w))
  | true =>
  refine Br.f rfl ?_
  have hy := (nB_iff dy).1 hdy
  refine ⟨fun m st w1 => ∃ i : Nat, st.2 = (i : Int) ∧ i ≤ L.length ∧ m = L.length - i ∧ Row w1 st.1 32 9 (((L.take i).map (Sg.mv dx dy)).flatMap gcells) ∧ (∀ j, st.1.own j → w.heap.size ≤ j) ∧ (∀ g ∈ L.take i, In g) ∧ Ext (fun _ => False) w w1, L.length, ⟨0, rfl, Nat.zero_le _, rfl, Row.nil _ _ _, fun j hj => (no_own j hj).elim, fun g hg => (by simp at hg), Ext.refl _ _⟩, ?_⟩
  rintro m ⟨so, i'⟩ w84 ⟨i, hi', hi, rfl, hR, ho, hIn, e84⟩
  simp only at hi' hR ho
  subst hi'
  unfold S6L2
  dsimp only
  rw [hlen]
  refine Br.dec (fun q => ?_) fun q => ?_
  · have hil : i < L.length := by omega
    obtain ⟨a, ha, hc⟩ := VRow.elem gcells_len (hG.row.keep e84) (List.getElem?_eq_getElem hil) (by decide)
    have htk := take_one hil
    generalize L[i] = g at *
    rw [ha]
    refine ⟨by omega, by omega, Nn.of ?_⟩
    rw [Int.toNat_natCast]
    refine ldGA (g := g) (fun j v hj => by rw [add_add']; exact hc j v hj) ?_
    refine (Hn.start w84).nw fun w88 H => ?_
    have H : Hn w84 w88 [(w84.heap.size, gcells zeroS, 32)] := H
    refine stG (x := g) H 0 rfl fun w89 H => ?_
    simp only [List.set_cons_zero] at H
    have E := e84.tr H.ext
    refine H.ld 0 rfl (x := g.fx) rfl ((c_within g.fx w89).mono ?_)
    rintro r w92 ⟨rfl, rfl⟩
    cases h1 : nB g.fx with
    | false => exact Br.t rfl (c_livesT E)
    | true =>
    refine Br.f rfl (H.ld 0 rfl (x := g.fy) rfl ((c_within g.fy w92).mono ?_))
    rintro r w97 ⟨rfl, rfl⟩
    cases h2 : nB g.fy with
    | false => exact Br.t rfl (c_livesT E)
    | true =>
    refine Br.f rfl (H.ld 0 rfl (x := g.tx) rfl ((c_within g.tx w97).mono ?_))
    rintro r w102 ⟨rfl, rfl⟩
    cases h3 : nB g.tx with
    | false => exact Br.t rfl (c_livesT E)
    | true =>
    refine Br.f rfl (H.ld 0 rfl (x := g.ty) rfl ((c_within g.ty w102).mono ?_))
    rintro r w107 ⟨rfl, rfl⟩
    cases h4 : nB g.ty with
    | false => exact Br.t rfl (c_livesT E)
    | true =>
    have hg : In g := ⟨(nB_iff _).1 h1, (nB_iff _).1 h2, (nB_iff _).1 h3, (nB_iff _).1 h4⟩
    have g1 := hg.fx
    have g2 := hg.fy
    have g3 := hg.tx
    have g4 := hg.ty
    refine Br.f rfl (H.ld 0 rfl (x := g.fx) rfl (H.ld 0 rfl (x := g.fy) rfl ?_))
    rw [i64_id (n := g.fx + dx) (by omega), i64_id (n := g.fy + dy) (by omega)]
    refine H.st' 0 rfl (of_decide_eq_true rfl) fun w112 H _ => H.st' 0 rfl (of_decide_eq_true rfl) fun w113 H _ => ?_
    have H : Hn w84 w113 [(w84.heap.size, gcells { g with fx := g.fx + dx, fy := g.fy + dy }, 32)] := H
    refine H.ld 0 rfl (x := g.tx) rfl (H.ld 0 rfl (x := g.ty) rfl ?_)
    rw [i64_id (n := g.tx + dx) (by omega), i64_id (n := g.ty + dy) (by omega)]
    refine H.st' 0 rfl (of_decide_eq_true rfl) fun w116 H _ => H.st' 0 rfl (of_decide_eq_true rfl) fun w117 H _ => ?_
    have H : Hn w84 w117 [(w84.heap.size, gcells (g.mv dx dy), 32)] := H
    refine ldG H 0 rfl (Nw.of ?_)
    have e1 := (Ext.refl (fun _ => False) w117).alloc (.cells (gcells (g.mv dx dy)).toArray 32)
    have hso : so.len = ((L.take i).map (Sg.mv dx dy)).length := VRow.count gcells_len (by decide) (Row.view hR)
    rw [List.length_map, List.length_take] at hso
    obtain ⟨s', w', hrun, hrow, hlen', hext, hown⟩ := elG.app1 (ty := 22) (ys := gcells (g.mv dx dy)) (hR.keep (H.ext.tr e1) fun _ _ e => e) (Blk.new w117 (gcells (g.mv dx dy)).toArray 32) rfl (gcells_one _) (by omega) (by omega)
    have E2 := e84.tr (H.ext.tr e1)
    refine ⟨s', w', hrun, L.length - (i + 1), by omega, i + 1, by rw [i64_id (by omega)]; rfl, by omega, rfl, ?_, fun j hj => ?_, fun y hy => ?_, ext_new E2 hext ho⟩
    · rw [htk, List.map_append, List.flatMap_append]
      simpa using hrow
    · rcases hown j hj with e | e
      · exact ho j e
      · have := E2.size
        omega
    · rw [htk] at hy
      rcases List.mem_append.1 hy with hy | hy
      · exact hIn y hy
      · rw [List.mem_singleton.1 hy]
        exact hg
  · have : i = L.length := by omega
    subst this
    rw [List.take_length] at hR hIn
    refine (c_Words (w := w84) (L := L) ⟨hG.row.keep e84, hG.ok, hG.lets, hG.most⟩).mono ?_
    rintro r122 w123 ⟨hW1, e123⟩
    have hG2 : GsV w123 so (L.map (Sg.mv dx dy)) := ⟨(Row.view hR).keep e123, fun y hy => by
      obtain ⟨g, hg, rfl⟩ := List.mem_map.1 hy
      have k := hG.ok g hg
      have hgi := hIn g hg
      have g1 := hgi.fx
      have g2 := hgi.fy
      have g3 := hgi.tx
      have g4 := hgi.ty
      exact ⟨by unfold I64 Sg.mv; dsimp only; omega, by unfold I64 Sg.mv; dsimp only; omega, by unfold I64 Sg.mv; dsimp only; omega, by unfold I64 Sg.mv; dsimp only; omega, k.hi, k.code, k.mode, k.font⟩, by rw [lets_mv]; exact hG.lets, by rw [List.length_map]; exact hmost⟩
    refine (c_Words hG2).mono ?_
    rintro r124 w125 ⟨hW2, e125⟩
    have hA : allF (L.map (Sg.mv dx dy)) = (allF L).map (Sg.mv dx dy) := allN_mv hx hy 0 L hIn
    rw [hA, mv_allW] at hW2
    have hW1 := hW1.keep e125
    have c1 := WsV.count hW1
    have c2 := WsV.count hW2
    rw [List.length_map] at c2
    have hcl : ∀ x ∈ allF L, Cl x := fun x hx => (allN_at 0 L x hx).2.2.1
    have hal : (allW (allF L)).length ≤ 1048576 := by
      have h1 := allW_len (allF L)
      have h3 : (allF L).length ≤ L.length := allN_len 0 L
      omega
    refine Br.f (by rw [c1, c2]; simp) ?_
    exact mv_words_loop hW1 hW2 (allW_bi hcl) hal hx hy fun w' e' => ⟨rfl, e84.tr (e123.tr (e125.tr e'))⟩
end Rdg
end Go.Proofs.YtodhdkbhmkinjaaDoor
