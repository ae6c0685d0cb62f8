/- StateStays. Condition: the table of spaces is laid. -/
import Derived.Test.YtjbeembbnkmpeaaDoorStQ
namespace Go.Proofs.YtjbeembbnkmpeaaDoor
namespace Ste
open Sh Mat Opr
set_option linter.unusedVariables false
set_option linter.unusedSimpArgs false
set_option maxRecDepth 8000
set_option maxHeartbeats 8000000
attribute [local irreducible] Ld Sh.St Nw Nn LdS LdT LdST StT
theorem stays_law {W : World} {s : Slc} {Q : List OpA} (hs : AS W) (hw1 : 1 < W.heap.size) (m : Mx) (hQ : OpsV W s Q) : C11 m s W fun r w1 => r = true ∧ Ext (fun _ => False) W w1 := by
  have hmx := maxLen_le
  have hmost := hQ.most
  have lv : ∀ {w4 : World}, Ext (fun _ => False) W w4 → C47 w4 fun r w1 => r = true ∧ Ext (fun _ => False) W w1 := fun e => (c_lives (hs.keep e) (by have := e.size; omega)).mono fun r w5 ⟨h, e5⟩ => ⟨h, e.tr e5⟩
  refine T11 m _ _ _ ?_
  unfold S11
  refine (Hn.start W).nw fun w2 H => ?_
  simp only [List.nil_append, add_lit, Nat.zero_add] at H ⊢
  refine (c_small hQ H.ext).mono ?_
  intro r w3 e3
  have H := H.keep e3
  refine BrV (fun _ => lv H.ext) fun _ => ?_
  have s3 := H.size
  iterate 6 refine H.ld 0 rfl rfl ?_
  refine (c_newA m w3).mono ?_
  rintro r w4 ⟨e4, h4⟩
  have H := H.keep e4
  by_cases hm : Mat.okM m = true
  case neg =>
    rw [if_neg hm] at h4
    subst h4
    exact Br.t rfl (lv H.ext)
  rw [if_pos hm] at h4
  obtain ⟨b, rfl, hb, hM⟩ := h4
  have hbW : W.heap.size ≤ b := by omega
  refine Br.f rfl ?_
  refine ⟨fun n st w5 => ∃ (i : Nat) (M : Mc), st = (i : Int) ∧ i ≤ Q.length ∧ n = Q.length - i ∧ Ext (fun _ => False) W w5 ∧ MS w5 b M ∧ posM M, Q.length, ⟨0, _, rfl, by omega, rfl, H.ext, hM, ?_, ?_⟩, ?_⟩
  · intro n hn
    exact (List.not_mem_nil hn).elim
  · intro p hp
    exact (List.not_mem_nil hp).elim
  clear hM H e3 e4
  rintro n st w5 ⟨i, M, rfl, hi, rfl, e5, hM, hpos⟩
  unfold S11L3
  rw [hQ.len]
  refine Br.dec (fun q => ?_) fun q => ?_
  · have hM5 := hM
    have hb5 := hM.lt
    refine (c_stateA hM).mono ?_
    rintro r w6 ⟨hr1, hr2, hM, e6⟩
    refine (c_depthA hM).mono ?_
    rintro r w7 ⟨rfl, rfl⟩
    refine (Hn.start w7).nw fun w8 H8 => ?_
    simp only [List.nil_append] at H8
    refine stG H8 (i := 0) rfl rfl fun w9 H9 => ?_
    simp only [List.set_cons_zero, List.set_cons_succ] at H9
    obtain ⟨a, o, ha, hok, ho, hc⟩ := hQ.get' (i := i) (by omega)
    have E9 := (e5.tr e6).tr H9.ext
    refine ⟨fun w' => Ext (fun _ => False) W w', E9.drew, by omega, by omega, ?_⟩
    rw [ha, Int.toNat_natCast]
    refine Nn.of (ldS_mk (fun w' hw => (hc w' hw).1) (ldS_mk (fun w' hw => (hc w' hw).2.1) (ldS_mk (fun w' hw => (hc w' hw).2.2) ?_)))
    have hM9 := hM.keep H9.drew.ext
    have hblt := hM.lt
    refine (c_doA hs hw1 E9.drew hbW hM9 hok).mono ?_
    rintro r62 w10 ⟨K, M', hd, hM', e10⟩
    have g10 := e10.blk (H9.drew.get 0 rfl) (by omega)
    have E10 := Ext.new E9.drew e10 fun j hj => by omega
    refine ⟨fun w' => Blk w' w7.heap.size (Sig.cells LG r).toArray 30, g10, ?_⟩
    refine Br.ne (fun hne => ?_) fun heq => ?_
    · have hst := doF_stay hd hne
      subst hst
      refine LdST.blk (pre := []) (post := []) (fun w hw => by rw [List.append_nil]; exact hw) rfl ?_
      refine (c_stateA hM').mono ?_
      rintro r2 w11 ⟨hs1, hs2, hM', e11⟩
      refine ⟨e11.blk g10 id, ?_⟩
      have iv1 : IV w11 (dsh r) M'.now.2 := ((hr2.iv.keep H9.drew.ext).keepF e10 fun j hj => by have := hr2.2 j hj; have := e6.size; omega).keep e11
      refine (r_same (D := M'.now.2) (E := M'.now.2) hs2.iv iv1 (by have := hM'.few; omega)).mono ?_
      rintro r3 w12 ⟨rfl, e12⟩
      rw [sameB_yes (hs1.trans hr1.symm) rfl]
      refine Br.f rfl ?_
      refine (c_depthA (hM'.keep e12)).mono ?_
      rintro r w13 ⟨rfl, rfl⟩
      refine Br.ne (fun q => absurd rfl q) fun _ => ?_
      exact ⟨Q.length - (i + 1), by omega, i + 1, _, by rw [i64_id (by omega)]; rfl, by omega, rfl, (E10.tr e11).tr e12, hM'.keep e12, doF_pos hd hpos⟩
    · exact ⟨Q.length - (i + 1), by omega, i + 1, _, by rw [i64_id (by omega)]; rfl, by omega, rfl, E10, hM', doF_pos hd hpos⟩
  · have hM5 := hM
    have hb5 := hM.lt
    refine (c_stateA hM).mono ?_
    rintro r w6 ⟨hr1, hr2, hM, e6⟩
    refine (Hn.start w6).nw fun w8 H8 => ?_
    simp only [List.nil_append] at H8
    refine stG H8 (i := 0) rfl rfl fun w9 H9 => ?_
    simp only [List.set_cons_zero, List.set_cons_succ] at H9
    have hM9 := hM.keep H9.ext
    have hfew := hM.few
    have E9 := e6.tr H9.ext
    have s56 := e6.size
    refine ⟨fun n st w10 => ∃ (i : Nat) (D : List Int), st = (i : Int) ∧ i ≤ D.length ∧ D.length = M.now.2.length ∧ n = D.length - i ∧ Ext (fun _ => False) w5 w10 ∧ Row w10 (dsh r) 2 1 (ints D) ∧ Blk w10 w6.heap.size (Sig.cells LG r).toArray 30, M.now.2.length, ⟨0, M.now.2, rfl, by omega, rfl, rfl, E9, hr2.1.keep H9.ext fun _ _ e => e, H9.get 0 rfl⟩, ?_⟩
    rintro n st w10 ⟨j, D, rfl, hj, hD, rfl, e10, hrow, hblk⟩
    unfold S11L2
    simp only [add_lit, Nat.zero_add]
    have hdl : (dsh r).len = D.length := (IV.row hrow).1
    refine Ld.of hblk (at10 r) ?_
    show Br (decide ((j : Int) < (((dsh r).len : Nat) : Int))) _ _
    rw [hdl]
    refine Br.dec (fun q2 => Ld.of hblk (at10 r) ?_) fun q2 => ?_
    · refine c_mark (w0 := w5) hrow hr2.2 (by omega) fun w11 hrow' e11 => ?_
      have hn : ∀ k, (dsh r).own k → k < w6.heap.size ∧ w5.heap.size ≤ k := fun k hk => ⟨hr2.1.own_lt hk, hr2.2 k hk⟩
      exact ⟨D.length - (j + 1), by omega, j + 1, D.set j (-1), by rw [i64_id (by omega)]; rfl, by rw [List.length_set]; omega, by rw [List.length_set]; exact hD, by rw [List.length_set], Ext.new e10 e11 fun k hk => by have := hn k hk; omega, hrow', e11.blk hblk fun hk => by have := hn _ hk; omega⟩
    · refine (c_stateA (hM5.keep e10)).mono ?_
      rintro r2 w11 ⟨hs1, hs2, hM11, e11⟩
      refine (Hn.start w11).nw fun w12 H12 => ?_
      simp only [List.nil_append] at H12
      refine stG H12 (i := 0) rfl rfl fun w13 H13 => ?_
      simp only [List.set_cons_zero, List.set_cons_succ] at H13
      have E13 := ((e5.tr e10).tr e11).tr H13.ext
      have iv := hs2.iv.keep H13.ext
      refine ⟨fun n st w14 => ∃ i : Nat, st = (i : Int) ∧ i ≤ M.now.2.length ∧ n = M.now.2.length - i ∧ w14 = w13, M.now.2.length, ⟨0, rfl, by omega, rfl, rfl⟩, ?_⟩
      rintro n st w14 ⟨k, rfl, hk, rfl, rfl⟩
      unfold S11L1
      simp only [add_lit, Nat.zero_add]
      refine H13.ld 0 rfl (at10 r2) ?_
      show Br (decide ((k : Int) < (((dsh r2).len : Nat) : Int))) _ _
      rw [iv.1]
      refine Br.dec (fun q3 => H13.ld 0 rfl (at10 r2) ?_) fun q3 => lv E13
      obtain ⟨a, ha, hc⟩ := iv.get (i := k) (by omega)
      show 0 ≤ (k : Int) ∧ (k : Int) < (((dsh r2).len : Nat) : Int) ∧ Nn (dsh r2).p _
      rw [ha, Int.toNat_natCast, iv.1]
      refine ⟨by omega, by omega, Nn.of (Ld.mk hc (Br.dec (fun q4 => ?_) fun q4 => ?_))⟩
      · have := hpos.1 (M.now.2.getD k 0) (by rw [List.getD_eq_getElem?_getD, List.getElem?_eq_getElem (by omega)]; exact List.getElem_mem (by omega))
        omega
      · exact ⟨M.now.2.length - (k + 1), by omega, k + 1, by rw [i64_id (by omega)]; rfl, by omega, rfl, by trivial⟩
end Ste
end Go.Proofs.YtjbeembbnkmpeaaDoor
