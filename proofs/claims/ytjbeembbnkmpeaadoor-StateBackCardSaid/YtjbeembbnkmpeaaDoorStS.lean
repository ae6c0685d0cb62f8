/- StateBack. Condition: the table of spaces is laid. -/
import Derived.Test.YtjbeembbnkmpeaaDoorStQ
namespace Go.Proofs.YtjbeembbnkmpeaaDoor
namespace Ste
open Sh Mat Opr
set_option linter.unusedVariables false
set_option linter.unusedSimpArgs false
set_option maxRecDepth 8000
set_option maxHeartbeats 8000000
attribute [local irreducible] Ld Sh.St Nw Nn LdS LdT LdST StT
section
variable {W w w0 w1 : World} {s : Slc} {Q : List OpA} {b : Nat} {M : Mc} {a : ByteArray}
/-- An operator without operands. -/
theorem c_doN (hs : AS w0) (hw1 : 1 < w0.heap.size) (E : Ext (fun _ => False) w0 w) (hb : w0.heap.size ≤ b) (hm : MS w b M) {r : Int} {M' : Mc} (hd : doF M ⟨bl a, bl eB, [], []⟩ = (r, M')) :
    C53 (some ⟨b, 0, none⟩) (a, nilS, eB) w fun r' w1 => r' = r ∧ MS w1 b M' ∧ Ext (· = b) w w1 := by
  obtain ⟨x, D, sv, S, rfl, hmv⟩ := hm
  refine (c_do (hs.keep E) (by omega) hmv (OVnil _) (by simp) (K := []) (OVnil _) (by simp)).mono ?_
  rintro r w1 ⟨x', D', sv', S', h1, h2, h3⟩
  rw [hd] at h1
  injection h1 with h1 h4
  exact ⟨h1.symm, ⟨x', D', sv', S', h4.symm, h2⟩, h3⟩
/-- The state that was saved lies above the older ones, or is the state again. -/
def Back (M : Mc) (p : P) (old : List P) : Prop := Above M p old ∨ (M.now = p ∧ M.saved = old)
theorem Back.pop {M : Mc} {p : P} {old : List P} (h : Back M p old) (hd : old.length < M.saved.length) : ∃ q r, M.saved = q :: r ∧ Back ⟨q, r⟩ p old ∧ r.length + 1 = M.saved.length := by
  rcases h with ⟨pre, h⟩ | ⟨_, h⟩
  · cases pre with
    | nil => exact ⟨p, old, h, .inr ⟨rfl, rfl⟩, by rw [h]; simp⟩
    | cons a pre => exact ⟨a, pre ++ p :: old, h, .inl ⟨pre, rfl⟩, by rw [h]; simp⟩
  · rw [h] at hd
    omega
theorem Back.end' {M : Mc} {p : P} {old : List P} (h : Back M p old) (hd : ¬ old.length < M.saved.length) : M.now = p ∧ M.saved = old := by
  rcases h with ⟨pre, h⟩ | h
  · rw [h] at hd
    simp at hd
    omega
  · exact h
theorem Back.le {M : Mc} {p : P} {old : List P} (h : Back M p old) : old.length ≤ M.saved.length := by
  rcases h with ⟨pre, h⟩ | ⟨_, h⟩
  · rw [h]
    simp
    omega
  · rw [h]
    exact Nat.le_refl _
theorem BrNB {a b : ByteArray} {A B : Prop} (h1 : ¬ bl a = bl b → A) (h2 : bl a = bl b → B) : Br (!(a.toList == b.toList)) A B := by
  rw [eqB]
  by_cases h : bl a = bl b
  · rw [decide_eq_true h]
    exact h2 h
  · rw [decide_eq_false h]
    exact h1 h
end
theorem back_law {W : World} {s1 s2 : Slc} {Q1 Q2 : List OpA} (hs : AS W) (hw1 : 1 < W.heap.size) (m : Mx) (hQ1 : OpsV W s1 Q1) (hQ2 : OpsV W s2 Q2) : C10 m s1 s2 W fun r w1 => r = true ∧ Ext (fun _ => False) W w1 := by
  have hmx := maxLen_le
  have hmost1 := hQ1.most
  have hmost2 := hQ2.most
  have lv : ∀ {w4 : World}, Ext (fun _ => False) W w4 → C47 w4 fun r w1 => r = true ∧ Ext (fun _ => False) W w1 := fun e => (c_lives (hs.keep e) (by have := e.size; omega)).mono fun r w5 ⟨h, e5⟩ => ⟨h, e.tr e5⟩
  refine T10 m _ _ _ _ ?_
  unfold S10
  refine (Hn.start W).nw fun w2 H => ?_
  simp only [List.nil_append, add_lit, Nat.zero_add] at H ⊢
  refine (c_small hQ1 H.ext).mono ?_
  intro r w3 e3
  have H := H.keep e3
  refine BrV (fun _ => lv H.ext) fun _ => ?_
  refine (c_small hQ2 H.ext).mono ?_
  intro r w3 e3
  have H := H.keep e3
  refine BrV (fun _ => lv H.ext) fun _ => ?_
  have s3 := H.size
  iterate 6 refine H.ld 0 rfl rfl ?_
  refine (c_newA m w3).mono ?_
  rintro r w4 ⟨e4, h4⟩
  have H := H.keep e4
  by_cases hm : Mat.okM m = true
  case neg =>
    rw [if_neg hm] at h4
    subst h4
    exact Br.t rfl (lv H.ext)
  rw [if_pos hm] at h4
  obtain ⟨b, rfl, hb, hM⟩ := h4
  have hbW : W.heap.size ≤ b := by omega
  refine Br.f rfl ?_
  refine ⟨fun n st w5 => ∃ (i : Nat) (M : Mc), st = (i : Int) ∧ i ≤ Q1.length ∧ n = Q1.length - i ∧ Ext (fun _ => False) W w5 ∧ MS w5 b M, Q1.length, ⟨0, _, rfl, by omega, rfl, H.ext, hM⟩, ?_⟩
  clear hM H e3 e4 s3 hb
  rintro n st w5 ⟨i, M, rfl, hi, rfl, e5, hM⟩
  unfold S10L3
  rw [hQ1.len]
  refine Br.dec (fun q => ?_) fun q => ?_
  · obtain ⟨a, o, ha, hok, ho, hc⟩ := hQ1.get' (i := i) (by omega)
    obtain ⟨c0, c1, c2⟩ := hc w5 e5
    refine ⟨by omega, by omega, ?_⟩
    rw [ha, Int.toNat_natCast]
    refine Nn.of (Ld.mk c0 (Ld.mk c1 (Ld.mk c2 ?_)))
    have hblt := hM.lt
    refine (c_doA hs hw1 e5 hbW hM hok).mono ?_
    rintro r62 w10 ⟨K, M', hd, hM', e10⟩
    exact ⟨Q1.length - (i + 1), by omega, i + 1, _, by rw [i64_id (by omega)]; rfl, by omega, rfl, Ext.new e5 e10 fun j hj => by omega, hM'⟩
  have hb5 := hM.lt
  refine (c_stateA hM).mono ?_
  rintro r w6 ⟨hr1, hr2, hM, e6⟩
  have s6 := e6.size
  refine (c_depthA hM).mono ?_
  rintro r6 w7 ⟨rfl, rfl⟩
  refine (Hn.start w7).nw fun w8 H8 => ?_
  simp only [List.nil_append] at H8
  refine stG H8 (i := 0) rfl rfl fun w9 H9 => ?_
  simp only [List.set_cons_zero, List.set_cons_succ] at H9
  have E9 := (e5.tr e6).tr H9.ext
  have hM9 := hM.keep H9.ext
  have blk9 := H9.get 0 rfl
  have iv9 : IV w9 (dsh r) M.now.2 := hr2.iv.keep H9.ext
  have hmost := hM.most
  have hfew := hM.few
  have iv' : ∀ {w'}, Ext (· = b) w9 w' → IV w' (dsh r) M.now.2 := fun e => iv9.keepF e fun j hj => by have := hr2.2 j hj; omega
  have blk' : ∀ {w'}, Ext (· = b) w9 w' → Blk w' w7.heap.size (Sig.cells LG r).toArray 30 := fun e => e.blk blk9 (by omega)
  have eW : ∀ {w'}, Ext (· = b) w9 w' → Ext (fun _ => False) W w' := fun e => Ext.new E9 e fun j hj => by omega
  refine (c_none ⟨#[113]⟩ _).mono ?_
  rintro rn v1 ⟨rfl, f1⟩
  have hdq := do_q M
  refine (c_doN (r := (doF M ⟨[113], [], [], []⟩).1) (M' := (doF M ⟨[113], [], [], []⟩).2) hs hw1 (E9.tr f1) hbW (hM9.keep f1) rfl).mono ?_
  rintro r10 w10 ⟨rfl, hM10, e10⟩
  have E10 : Ext (· = b) w9 w10 := (weak f1).tr e10
  by_cases hl : M.saved.length < 28
  case neg =>
    rw [if_neg hl] at hdq
    rw [hdq]
    refine Br.t rfl ?_
    refine Br.eq (fun _ => lv (eW E10)) fun q2 => absurd (show (M.saved.length : Int) = 28 by omega) q2
  rw [if_pos hl] at hdq
  rw [hdq] at hM10 ⊢
  refine Br.f rfl ?_
  refine ⟨fun n st w11 => ∃ (i : Nat) (M2 : Mc), st = (i : Int) ∧ i ≤ Q2.length ∧ n = Q2.length - i ∧ Ext (· = b) w9 w11 ∧ MS w11 b M2 ∧ Above M2 M.now M.saved, Q2.length, ⟨0, _, rfl, by omega, rfl, E10, hM10, [], rfl⟩, ?_⟩
  clear hM10 E10 e10 hdq f1
  rintro n st w11 ⟨i2, M2, rfl, hi2, rfl, e11, hM2, hab⟩
  unfold S10L2
  rw [hQ2.len]
  refine Br.dec (fun q => ?_) fun q => ?_
  · obtain ⟨a, o, ha, hok, ho, hc⟩ := hQ2.get' (i := i2) (by omega)
    obtain ⟨c0, c1, c2⟩ := hc w11 (eW e11)
    refine ⟨by omega, by omega, ?_⟩
    rw [ha, Int.toNat_natCast]
    have go : ∀ (I : World → Prop), (bl o.1.1 ≠ [81] ∨ M.saved.length + 1 < M2.saved.length) → (∀ w12 M3, Ext (· = b) w9 w12 → MS w12 b M3 → Above M3 M.now M.saved → I w12) →
        Ld w11 (a.add (i2 * 3)) Value.string fun (x : ByteArray) => Ld w11 ((a.add (i2 * 3)).add 1) Slc.v fun (y : Slc) => Ld w11 ((a.add (i2 * 3)).add 2) Value.string fun (z : ByteArray) =>
          C53 (some ⟨b, 0, none⟩) (x, y, z) w11 fun _ w12 => I w12 := by
      intro I hne k
      refine Ld.mk c0 (Ld.mk c1 (Ld.mk c2 ?_))
      refine (c_doA hs hw1 (eW e11) hbW hM2 hok).mono ?_
      rintro r62 w12 ⟨K, M', hd, hM', e12⟩
      exact k w12 M' (e11.tr e12) hM' (doF_above hd hab hne)
    refine Nn.of (Ld.mk c0 (BrNB (fun hn => ⟨by omega, by omega, Nn.of (go _ (.inl hn) ?_)⟩) fun hn => (c_depthA hM2).mono ?_))
    · intro w12 M3 e12 hM3 hab3
      exact ⟨Q2.length - (i2 + 1), by omega, i2 + 1, M3, by rw [i64_id (by omega)]; rfl, by omega, rfl, e12, hM3, hab3⟩
    · rintro r62 w12 ⟨rfl, rfl⟩
      rw [i64_id (n := (M.saved.length : Int) + 1) (by omega)]
      refine Br.dec (fun hd => ⟨by omega, by omega, Nn.of (go _ (.inr (by omega)) ?_)⟩) fun hd => ?_
      · intro w12 M3 e12 hM3 hab3
        exact ⟨Q2.length - (i2 + 1), by omega, i2 + 1, M3, by rw [i64_id (by omega)]; rfl, by omega, rfl, e12, hM3, hab3⟩
      · exact ⟨Q2.length - (i2 + 1), by omega, i2 + 1, M2, by rw [i64_id (by omega)]; rfl, by omega, rfl, e11, hM2, hab⟩
  have hm2 := hM2.most
  refine ⟨fun n st w12 => ∃ (i : Nat) (M3 : Mc), st = (i : Int) ∧ n = 29 - i ∧ i + (M3.saved.length - M.saved.length) ≤ 28 ∧ Ext (· = b) w9 w12 ∧ MS w12 b M3 ∧ Back M3 M.now M.saved, 29, ⟨0, M2, rfl, rfl, by omega, e11, hM2, .inl hab⟩, ?_⟩
  clear hM2 hab e11 hm2
  rintro n st w12 ⟨i3, M3, rfl, rfl, hi3, e12, hM3, hbk⟩
  unfold S10L1
  have fin : ¬ M.saved.length < M3.saved.length → ∀ (R : Bool → World → Prop), (∀ w', Ext (· = b) w9 w' → C47 w' R) → C55 (some ⟨b, 0, none⟩) w12.drew fun r127 vw128 => ∃ vS129 : World → Prop, vS129 vw128 ∧ Br (r127 == (M.saved.length : Int)) (LdST vS129 (⟨w7.heap.size, 0, none⟩ : Addr) 0 LG fun (x130 : G) =>
            C52 (some ⟨b, 0, none⟩) vw128 fun r131 vw132 => vS129 vw132 ∧ C57 r131 x130 vw132 fun r133 vw134 =>
                ∃ vS135 : World → Prop, vS135 vw134 ∧ Br r133 (LdST vS135 (⟨w7.heap.size, 0, none⟩ : Addr) 0 LG fun (x136 : G) =>
                  C52 (some ⟨b, 0, none⟩) vw134 fun r137 vw138 => vS135 vw138 ∧ C50 r137 x136 vw138 fun r139 vw140 =>
                      Br r139 (C47 vw140 fun r141 vw142 => R r141 vw142) (R false vw140)) (R false vw134)) (∃ vS143 : World → Prop, vS143 vw128 ∧ R false vw128) := by
    intro hle R hR
    obtain ⟨n1, n2⟩ := hbk.end' hle
    have e12 := e12.drew
    have hM3 : MS w12.drew b M3 := hM3.keep (Ext.refl _ w12).drew
    refine (c_depthA hM3).mono ?_
    rintro r13 w13 ⟨rfl, rfl⟩
    refine ⟨fun w' => Ext (· = b) w9 w', e12, Br.eq (fun _ => ?_) fun q => absurd (by rw [n2]) q⟩
    refine LdST.blk (pre := []) (post := []) (fun w hw => by rw [List.append_nil]; exact blk' hw) rfl ?_
    refine (c_stateA hM3).mono ?_
    rintro r14 w14 ⟨hs1, hs2, hM3, e14⟩
    have e14 := e12.tr (weak e14)
    refine ⟨e14, ?_⟩
    refine (c_same (D := M3.now.2) (E := M.now.2) hs2.iv (iv' e14) (by rw [n1]; omega)).mono ?_
    rintro r15 w15 ⟨rfl, e15⟩
    rw [sameB_yes (by rw [hs1, hr1, n1]) (by rw [n1])]
    have hM3 := hM3.keep e15
    have e15 := e14.tr (weak e15)
    refine ⟨fun w' => Ext (· = b) w9 w', e15, Br.t rfl ?_⟩
    refine LdST.blk (pre := []) (post := []) (fun w hw => by rw [List.append_nil]; exact blk' hw) rfl ?_
    refine (c_stateA hM3).mono ?_
    rintro r14 w14 ⟨hs1, hs2, hM3, e14⟩
    have e14 := e15.tr (weak e14)
    refine ⟨e14, ?_⟩
    refine (r_same (D := M3.now.2) (E := M.now.2) hs2.iv (iv' e14) (by rw [n1]; omega)).mono ?_
    rintro r15 w16 ⟨rfl, e16⟩
    rw [sameB_yes (by rw [hs1, hr1, n1]) (by rw [n1])]
    exact Br.t rfl (hR w16 (e14.tr (weak e16)))
  have hle := hbk.le
  refine Br.dec (fun q => (c_depthA hM3).mono ?_) fun q => fin (by omega) _ fun w' e => lv (eW e)
  rintro r13 w13 ⟨rfl, rfl⟩
  refine Br.dec (fun q2 => (c_none ⟨#[81]⟩ _).mono ?_) fun q2 => fin (by omega) _ fun w' e => lv (eW e)
  rintro rn v1 ⟨rfl, f1⟩
  obtain ⟨p, r', h1, h2, h3⟩ := hbk.pop (by omega)
  refine (c_doN hs hw1 ((eW e12).tr f1) hbW (hM3.keep f1) (do_Q h1)).mono ?_
  rintro r10 w14 ⟨rfl, hM14, e14⟩
  refine Br.f rfl ?_
  refine ⟨29 - (i3 + 1), by omega, i3 + 1, _, by rw [i64_id (by omega)]; rfl, rfl, ?_, (e12.tr (weak f1)).tr e14, hM14, h2⟩
  show i3 + 1 + (r'.length - M.saved.length) ≤ 28
  omega
end Ste
end Go.Proofs.YtjbeembbnkmpeaaDoor
