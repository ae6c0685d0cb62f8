/- Lists of operators are walked; StateStays. Condition: the table of spaces is laid. -/
import Derived.Test.YtjbeembbnkmpeaaDoorStO
import Derived.Test.YtjbeembbnkmpeaaDoorFnLx
namespace Go.Proofs.YtjbeembbnkmpeaaDoor
namespace Ste
open Sh Mat Opr
set_option linter.unusedVariables false
set_option linter.unusedSimpArgs false
set_option maxRecDepth 8000
set_option maxHeartbeats 8000000
theorem OpsV.get {w0 w : World} {s : Slc} {Q : List OpA} (h : OpsV w0 s Q) (E : Ext (fun _ => False) w0 w) {i : Nat} (hi : i < Q.length) : ∃ a q, s.p = some a ∧ OpOk w0 q ∧ Q[i]? = some q ∧ w.cell? (a.add (i * 3)) = some (.string q.1.1) ∧ w.cell? ((a.add (i * 3)).add 1) = some (Slc.v q.1.2.1) ∧ w.cell? ((a.add (i * 3)).add 2) = some (.string q.1.2.2) := by
  have hq : Q[i]? = some Q[i] := List.getElem?_eq_getElem hi
  obtain ⟨a, ha, c0, c1, c2⟩ := h.at' i _ hq
  exact ⟨a, Q[i], ha, h.ok _ (List.getElem_mem hi), hq, E.cell_same c0, E.cell_same c1, E.cell_same c2⟩
theorem OpsV.get' {w0 : World} {s : Slc} {Q : List OpA} (h : OpsV w0 s Q) {i : Nat} (hi : i < Q.length) : ∃ a q, s.p = some a ∧ OpOk w0 q ∧ Q[i]? = some q ∧ ∀ w, Ext (fun _ => False) w0 w → w.cell? (a.add (i * 3)) = some (.string q.1.1) ∧ w.cell? ((a.add (i * 3)).add 1) = some (Slc.v q.1.2.1) ∧ w.cell? ((a.add (i * 3)).add 2) = some (.string q.1.2.2) := by
  have hq : Q[i]? = some Q[i] := List.getElem?_eq_getElem hi
  obtain ⟨a, ha, c0, c1, c2⟩ := h.at' i _ hq
  exact ⟨a, Q[i], ha, h.ok _ (List.getElem_mem hi), hq, fun w E => ⟨E.cell_same c0, E.cell_same c1, E.cell_same c2⟩⟩
theorem ldS_mk {α : Type} {S : World → Prop} {V : α → Value} {K : α → Prop} {x : α} {a : Addr} (h : ∀ w, S w → w.cell? a = some (V x)) (k : K x) : LdS S a V K := ⟨x, h, k⟩
theorem er_up (x : G) (t : Slc) : er (up10 x t) = er x := er_10 x t
attribute [local irreducible] Ld Sh.St Nw Nn LdS LdT LdST StT
section
variable {w0 w w1 : World} {s : Slc} {Q : List OpA} {q : OpA} {b : Nat} {M : Mc}
theorem c_small (h : OpsV w0 s Q) (E : Ext (fun _ => False) w0 w) : C46 s w fun r w1 => Ext (fun _ => False) w w1 := by
  refine T46 _ _ _ ?_
  unfold S46
  have hm := maxLen_le
  have hmost := h.most
  refine ⟨fun n st w3 => ∃ i : Nat, st.2 = (i : Int) ∧ i ≤ Q.length ∧ n = Q.length - i ∧ Ext (fun _ => False) w w3, Q.length, ⟨0, rfl, by omega, rfl, Ext.refl _ _⟩, ?_⟩
  rintro n ⟨z, st⟩ w3 ⟨i, hst, hi, rfl, e3⟩
  simp only at hst
  subst hst
  unfold S46L2
  dsimp only
  rw [h.len]
  refine Br.dec (fun e => ⟨by omega, by omega, ?_⟩) fun e => Br.dec (fun _ => e3) fun _ => e3
  obtain ⟨a, q, ha, ⟨d, hql, hov, hot⟩, hq, c⟩ := h.get' (i := i) (by omega)
  obtain ⟨c0, c1, c2⟩ := c w3.drew (E.tr e3.drew)
  rw [ha, Int.toNat_natCast]
  refine Nn.of (Ld.mk c0 ⟨by omega, by omega, Nn.of (Ld.mk c2 (Lt.of ?_))⟩)
  refine ⟨fun n st w4 => ∃ k : Nat, st.2 = (k : Int) ∧ k ≤ q.2.length ∧ n = q.2.length - k ∧ Ext (fun _ => False) w w4, q.2.length, ⟨0, rfl, by omega, rfl, e3.drew⟩, ?_⟩
  rintro n ⟨z2, st⟩ w4 ⟨k, hst, hk, rfl, e4⟩
  simp only at hst
  subst hst
  unfold S46L1
  dsimp only
  rw [h.len, ha, Int.toNat_natCast]
  obtain ⟨d0, d1, d2⟩ := c w4 (E.tr e4)
  refine ⟨by omega, by omega, Nn.of (Ld.mk d1 ?_)⟩
  rw [hov.1]
  refine Br.dec (fun e => ⟨by omega, by omega, Nn.of (Ld.mk d1 ?_)⟩) fun e => ?_
  · rw [hov.1]
    refine ⟨by omega, by omega, ?_⟩
    have hk : q.2[k]? = some q.2[k] := List.getElem?_eq_getElem (by omega)
    obtain ⟨p, hp, k0, k1, k2, k3, k4, k5⟩ := (hov.keep (E.tr e4)).get hk
    rw [hp, Int.toNat_natCast]
    refine Nn.of (Ld.mk k0 (Ld.mk k1 (Ld.mk k2 (Ld.mk k3 (Ld.mk k4 (Ld.mk k5 ?_))))))
    refine (c_size d q.2[k] w4 (hot _ (List.getElem_mem (by omega))) (E.tr e4)).mono ?_
    intro r w5 e5
    exact ⟨q.2.length - (k + 1), by omega, k + 1, by rw [i64_id (by omega)]; rfl, by omega, rfl, e4.tr e5⟩
  · exact ⟨Q.length - (i + 1), by omega, i + 1, by rw [i64_id (by omega)]; rfl, by omega, rfl, e4⟩
/-- A machine in its block. -/
def MS (w : World) (b : Nat) (M : Mc) : Prop := ∃ x D sv S, mc x D S = M ∧ MV w b x D sv S
theorem MS.keepB (h : MS w b M) {F : Nat → Prop} (he : Ext F w w1) (hF : ∀ j, j < w.heap.size → ¬ F j) : MS w1 b M := by
  obtain ⟨x, D, sv, S, h1, h2⟩ := h
  exact ⟨x, D, sv, S, h1, h2.keepF he (hF b h2.blk.lt) fun j hj => hF j (h2.own j hj).2⟩
theorem MS.keep (h : MS w b M) (he : Ext (fun _ => False) w w1) : MS w1 b M := h.keepB he fun _ _ e => e
theorem MS.most (h : MS w b M) : M.saved.length ≤ 28 := by
  obtain ⟨x, D, sv, S, rfl, h2⟩ := h
  rw [mc_len]
  exact h2.most
theorem MS.few (h : MS w b M) : M.now.2.length ≤ 100 := by
  obtain ⟨x, D, sv, S, rfl, h2⟩ := h
  exact h2.few
theorem MS.lt (h : MS w b M) : b < w.heap.size := by
  obtain ⟨x, D, sv, S, rfl, h2⟩ := h
  exact h2.blk.lt
theorem c_doA (hs : AS w0) (hw1 : 1 < w0.heap.size) (E : Ext (fun _ => False) w0 w) (hb : w0.heap.size ≤ b) (hm : MS w b M) (ho : OpOk w0 q) :
    C53 (some ⟨b, 0, none⟩) (q.1.1, q.1.2.1, q.1.2.2) w fun r w1 => ∃ K M', doF M ⟨bl q.1.1, bl q.1.2.2, q.2, K⟩ = (r, M') ∧ MS w1 b M' ∧ Ext (· = b) w w1 := by
  obtain ⟨x, D, sv, S, rfl, hmv⟩ := hm
  obtain ⟨K, hK, hKl⟩ := ho.kids
  obtain ⟨d, hql, hov, hot⟩ := ho
  have hmx := maxLen_le
  refine (c_do (hs.keep E) (by omega) hmv (hov.keep E) (by omega) (hK.keep E) hKl).mono ?_
  rintro r w1 ⟨x', D', sv', S', h1, h2, h3⟩
  exact ⟨K, _, h1, ⟨x', D', sv', S', rfl, h2⟩, h3⟩
theorem c_stateA (hm : MS w b M) : C52 (some ⟨b, 0, none⟩) w fun r w1 => er r = M.now.1 ∧ IO w w1 (dsh r) M.now.2 ∧ MS w1 b M ∧ Ext (fun _ => False) w w1 := by
  obtain ⟨x, D, sv, S, rfl, hmv⟩ := hm
  refine (c_state hmv).mono ?_
  rintro r w1 ⟨t, rfl, ho, e⟩
  exact ⟨er_up x t, by rw [dsh_10]; exact ho, ⟨x, D, sv, S, rfl, hmv.keep e⟩, e⟩
theorem c_depthA (hm : MS w b M) : C55 (some ⟨b, 0, none⟩) w fun r w1 => r = (M.saved.length : Int) ∧ w1 = w := by
  obtain ⟨x, D, sv, S, rfl, hmv⟩ := hm
  refine (c_depth hmv).mono ?_
  rintro r w1 ⟨rfl, rfl⟩
  exact ⟨by rw [mc_len], rfl⟩
theorem c_newA (m : Mx) (w : World) : C48 m w fun r w1 => Ext (fun _ => False) w w1 ∧ if Mat.okM m = true then ∃ b, r = some ⟨b, 0, none⟩ ∧ w.heap.size ≤ b ∧ MS w1 b ⟨(er (firstG m), []), []⟩ else r = none := by
  refine (c_new m w).mono ?_
  rintro r w1 ⟨e, h⟩
  refine ⟨e, ?_⟩
  by_cases hm : Mat.okM m = true
  · rw [if_pos hm] at h ⊢
    obtain ⟨b, h1, h2, h3⟩ := h
    exact ⟨b, h1, h2, _, _, _, _, rfl, h3⟩
  · rw [if_neg hm] at h ⊢
    exact h
theorem sameB_yes {x y : G} {D E : List Int} (h : er x = er y) (hD : D = E) : sameB x y D E = true := by
  subst hD
  rw [sameB_er h, sameB_refl]
/-- The state's dashes are made -1: the machine's are not. -/
theorem c_mark {t : Slc} {D : List Int} {w0 : World} (h : Row w t 2 1 (ints D)) (ho : ∀ j, t.own j → w0.heap.size ≤ j) {i : Nat} (hi : i < D.length) {K : World → Prop} (k : ∀ w', Row w' t 2 1 (ints (D.set i (-1))) → Ext (fun j => t.own j) w w' → K w') :
    0 ≤ (i : Int) ∧ (i : Int) < (t.len : Nat) ∧ Nn t.p fun a => Sh.St w (a.add (((i : Nat) : Int).toNat * 1)) (.int .i64 (-1)) K := by
  have hl := h.1
  rw [ints_len] at hl
  rcases h.2 with rfl | ⟨g, cur, hp, hb, hc, hsz, htk⟩
  · change D.length = 0 * 1 at hl
    omega
  refine ⟨by omega, by omega, ?_⟩
  rw [hp, Int.toNat_natCast]
  refine Nn.of ?_
  rw [add_lit, Nat.zero_add, Nat.mul_one]
  have hb' : Blk w g cur.toList.toArray 2 := by simpa using hb
  refine stB hb' (by simp; omega) fun w' h' e' => k w' ⟨by rw [ints_len, List.length_set]; omega, .inr ⟨g, _, hp, h', hc, by simp; omega, ?_⟩⟩ (e'.mono fun j _ hj => ⟨_, hp, hj.symm⟩)
  rw [← ints_set, ← htk]
  simp only [List.toList_toArray]
  rw [List.take_set]
end
end Ste
end Go.Proofs.YtjbeembbnkmpeaaDoor
