/- StateDoes. Condition: the table of spaces is laid. -/
import Derived.Test.YtjbeembbnkmpeaaDoorStY
namespace Go.Proofs.YtjbeembbnkmpeaaDoor
namespace Ste
open Sh Mat Opr
set_option linter.unusedVariables false
set_option linter.unusedSimpArgs false
set_option maxRecDepth 8000
set_option maxHeartbeats 8000000
theorem mc_eq {x y : G} {D E : List Int} {S T : List P} (h : mc x D S = mc y E T) : er x = er y ∧ D = E ∧ S.length = T.length := by
  obtain ⟨h1, h2, h3⟩ := mc_now (q := (mc y E T).saved) (show mc x D S = ⟨(er y, E), (mc y E T).saved⟩ from h)
  exact ⟨h1, h2, by rw [h3, mc_len]⟩
theorem OpOk.kidsAll {w : World} {q : OpA} (h : OpOk w q) : ∃ K, OV w (ob0 q.2).2.2.2.2.2 K ∧ K.length ≤ 9223372036854775807 := h.kids
section
attribute [local irreducible] Ld Sh.St Nw Nn LdS LdT LdST StT
variable {W w w1 : World} {s : Slc} {Q : List OpA}
theorem does_law (hs : AS W) (hw1 : 1 < W.heap.size) (m : Mx) (hQ : OpsV W s Q) : C9 m s W fun r w1 => r = true ∧ Ext (fun _ => False) W w1 := by
  have hmx := maxLen_le
  have hmost := hQ.most
  have lv : ∀ {w4 : World}, Ext (fun _ => False) W w4 → C47 w4 fun r w1 => r = true ∧ Ext (fun _ => False) W w1 := fun e => (c_lives (hs.keep e) (by have := e.size; omega)).mono fun r w5 ⟨h, e5⟩ => ⟨h, e.tr e5⟩
  refine T9 m _ _ _ ?_
  unfold S9
  refine (Hn.start W).nw fun w2 H => ?_
  simp only [List.nil_append, add_lit, Nat.zero_add] at H ⊢
  refine (c_small hQ H.ext).mono ?_
  intro r w3 e3
  have H := H.keep e3
  refine BrV (fun _ => lv H.ext) fun _ => ?_
  have s3 := H.size
  iterate 6 refine H.ld 0 rfl rfl ?_
  refine (c_new m w3).mono ?_
  rintro r18 w4 ⟨e4, h4⟩
  have H := H.keep e4
  iterate 6 refine H.ld 0 rfl rfl ?_
  refine (Mat.r_check m w4).mono ?_
  rintro r w5 ⟨rfl, e5⟩
  have H := H.keep e5
  by_cases hm : Mat.okM m = true
  case neg =>
    rw [if_neg hm] at h4 ⊢
    subst h4
    exact Br.t (by decide) (Br.t rfl (lv H.ext))
  rw [if_pos hm] at h4 ⊢
  obtain ⟨b, rfl, hb, hM⟩ := h4
  have hbW : W.heap.size ≤ b := by omega
  refine Br.f (by decide) ?_
  have H := H.drew
  have hM := (hM.keep e5).keep (Ext.refl _ w5).drew
  refine ⟨fun w' => Hn W w' [(W.heap.size, mrow m, 23)], H, Br.f rfl ?_⟩
  have hB : ∀ w', Hn W w' [(W.heap.size, mrow m, 23)] → Blk w' W.heap.size (mrow m).toArray 23 := fun w' h => h.get 0 rfl
  iterate 12 refine LdS.of hB rfl ?_
  refine (c_first m _).mono ?_
  rintro r w6 ⟨rfl, e6⟩
  have H := H.keep e6
  refine ⟨H, (c_first' m _).mono ?_⟩
  rintro r w7 ⟨rfl, e7⟩
  have H := H.keep e7
  have ivn : ∀ w', IV w' (dsh (firstG m)) [] := fun w' => by rw [dsh_first]; exact IV.nil w'
  refine (r_same (D := []) (E := []) (ivn _) (ivn _) (by simp)).mono ?_
  rintro r w8 ⟨rfl, e8⟩
  have H := H.keep e8
  rw [sameB_refl]
  refine ⟨fun w' => Hn W w' [(W.heap.size, mrow m, 23)], H, Br.f rfl ?_⟩
  iterate 6 refine LdS.of hB rfl ?_
  have hM := ((hM.keep e6).keep e7).keep e8
  refine (c_state hM).mono ?_
  rintro r w9 ⟨t, rfl, ht, e9⟩
  have H := H.keep e9
  refine ⟨H, (c_first' m _).mono ?_⟩
  rintro r w10 ⟨rfl, e10⟩
  have H := H.keep e10
  refine (r_same (D := []) (E := []) (by rw [dsh_10]; exact ht.iv.keep e10) (ivn _) (by simp)).mono ?_
  rintro r w11 ⟨rfl, e11⟩
  have H := H.keep e11
  rw [sameB_yes (er_up _ _) rfl]
  refine Br.f rfl ?_
  iterate 6 refine H.ld 0 rfl rfl ?_
  refine (c_first' m _).mono ?_
  rintro r w12 ⟨rfl, e12⟩
  have H := H.keep e12
  have hM := (((hM.keep e9).keep e10).keep e11).keep e12
  have hb12 := hM.blk.lt
  refine H.nw' fun w13 H13 e13 => ?_
  have g13 := H13.get 1 rfl
  refine StT.blk (pre := []) (post := []) (zs := Sig.cells LM (j31 zeroG nilS)) (by rw [List.append_nil]; exact g13) rfl rfl fun w14 g14 e14 => ?_
  rw [List.append_nil] at g14
  have g14 : Blk w14 w12.heap.size (Sig.cells LM (j31 (firstG m) nilS)).toArray 108 := g14
  have hgW : W.heap.size ≤ w12.heap.size := H.size
  have hbg : b < w12.heap.size := hb12
  have hM14 : MV w14 b (firstG m) [] nilS [] := (hM.keep e13).keepF e14 (by omega) fun j hj => by have := (hM.own j hj).2; omega
  have E14 : Ext (fun _ => False) W w14 := Ext.new H13.ext e14 fun j hj => by omega
  have hR : RV w14 (firstG m) [] nilS [] := ⟨ivn _, by simp, SVd.nil _, fun p hp => (List.not_mem_nil hp).elim, by simp⟩
  have hO : ∀ j, ¬ MO (firstG m) nilS [] j := by
    rintro j (⟨a, ha, _⟩ | ⟨a, ha, _⟩ | ⟨p, hp, _⟩)
    · rw [dsh_first] at ha
      cases ha
    · cases ha
    · exact (List.not_mem_nil hp).elim
  clear e14 g13 H13
  generalize hg : w12.heap.size = g at g14 hgW hbg ⊢
  refine ⟨fun n st w15 => ∃ (i : Nat) (x y : G) (D E : List Int) (sx sy : Slc) (X Y : List P), st = (i : Int) ∧ i ≤ Q.length ∧ n = Q.length - i ∧ Ext (fun _ => False) W w15 ∧ MV w15 b x D sx X ∧ RV w15 y E sy Y ∧ (∀ j, MO y sy Y j → j ≠ b ∧ j ≠ g ∧ j < w15.heap.size) ∧ (∀ j, MO x sx X j → j ≠ g) ∧ mc x D X = mc y E Y ∧ Blk w15 g (Sig.cells LM (j31 y sy)).toArray 108, Q.length, ⟨0, _, _, _, _, _, _, _, _, rfl, by omega, rfl, E14, hM14, hR, fun j hj => (hO j hj).elim, fun j hj => (hO j hj).elim, rfl, g14⟩, ?_⟩
  clear hM14 hR hO E14 g14 e13 hM H ht
  rintro n st w15 ⟨i, x, y, D, E, sx, sy, X, Y, rfl, hi, rfl, E15, hM, hR, hOy, hOx, hxy, hg15⟩
  unfold S9L1
  simp only [add_lit, Nat.zero_add, hg]
  rw [hQ.len]
  refine Br.dec (fun q => ?_) fun q => lv E15
  obtain ⟨a, o, ha, hok, ho, hc⟩ := hQ.get' (i := i) (by omega)
  obtain ⟨c0, c1, c2⟩ := hc w15 E15
  refine ⟨by omega, by omega, ?_⟩
  rw [ha, Int.toNat_natCast]
  refine Nn.of (Ld.mk c0 (Ld.mk c1 (Ld.mk c2 ?_)))
  obtain ⟨K, hK, hKl⟩ := hok.kids
  obtain ⟨dd, hql, hov, hot⟩ := hok
  have hb15 := hM.blk.lt
  have hg15' := hg15.lt
  refine (c_doO (hs.keep E15) (by omega) hM (hov.keep E15) (by omega) (hK.keep E15) hKl).mono ?_
  rintro r w16 ⟨x2, D2, sx2, X2, hd, hM2, e16, hO2⟩
  have E16 : Ext (fun _ => False) W w16 := Ext.new E15 e16 fun j hj => by omega
  have hR16 : RV w16 y E sy Y := hR.keepF e16 fun j hj => (hOy j hj).1
  have hgb : g ≠ b := by omega
  have g16 := e16.blk hg15 hgb
  have hOx2 : ∀ j, MO x2 sx2 X2 j → j ≠ g := fun j hj => (hO2 j hj).elim (hOx j) fun h => by omega
  have E16 := E16.drew
  have hM2 : MV w16.drew b x2 D2 sx2 X2 := hM2.keep (Ext.refl _ w16).drew
  have hR16 : RV w16.drew y E sy Y := hR16.keep (Ext.refl _ w16).drew
  have g16 : Blk w16.drew g (Sig.cells LM (j31 y sy)).toArray 108 := g16
  have s16 : w15.heap.size ≤ w16.drew.heap.size := e16.size
  generalize w16.drew = v0 at E16 hM2 hR16 g16 s16 ⊢
  have rest : ∀ (B1 I : World → Prop) (w17 : World) (e : Int) (gz : Nat) (zs : List Value) (tz : TypeId) (y2 : G) (E2 : List Int) (sy2 : Slc) (Y2 : List P), Ext (fun _ => False) v0 w17 → doF (mc y E Y) ⟨bl o.1.1, bl o.1.2.2, o.2, K⟩ = (e, mc y2 E2 Y2) → RV w17 y2 E2 sy2 Y2 → (∀ j, MO y2 sy2 Y2 j → MO y sy Y j ∨ (v0.heap.size ≤ j ∧ j < w17.heap.size)) → (∀ j, MO y2 sy2 Y2 j → j ≠ gz) → Blk w17 gz zs.toArray tz → zs.length = 31 → v0.heap.size ≤ gz →
      (∀ u5 : World, Ext (fun _ => False) W u5 → MV u5 b x2 D2 sx2 X2 → RV u5 y2 E2 sy2 Y2 → (∀ j, MO y2 sy2 Y2 j → j ≠ b ∧ j ≠ g ∧ j < u5.heap.size) → (∀ j, MO x2 sx2 X2 j → j ≠ g) → mc x2 D2 X2 = mc y2 E2 Y2 → Blk u5 g (Sig.cells LM (j31 y2 sy2)).toArray 108 → I u5) →
      StT ⟨gz, 0, none⟩ 0 LM (j31 y2 sy2) w17 fun u1 => LdT u1 ⟨gz, 0, none⟩ 0 LM fun x152 => StT ⟨g, 0, none⟩ 0 LM x152 u1 fun u2 => ∃ vS : World → Prop, vS u2.drew ∧ Br (r != e) (B1 u2.drew) (LdS vS ⟨g, 30, none⟩ Slc.v fun x155 =>
        C55 (some ⟨b, 0, none⟩) u2.drew fun r156 u3 => vS u3 ∧ Br (r156 != ((x155.len : Nat) : Int)) (B1 u3) (LdST vS ⟨g, 0, none⟩ 0 LG fun x158 => C52 (some ⟨b, 0, none⟩) u3 fun r159 u4 => vS u4 ∧ C50 r159 x158 u4 fun r161 u5 => Br (!r161) (B1 u5) (I u5))) := by
    intro B1 I w17 e gz zs tz y2 E2 sy2 Y2 e17 hd2 hR2 hO hgz gz17 hz hvz k
    rw [hxy, hd2] at hd
    injection hd with hd3 hd4
    have s17 := e17.size
    have gv0 := g16.lt
    refine StT.blk (pre := []) (post := []) (by rw [List.append_nil]; exact gz17) rfl hz fun u1 gu1 eu1 => ?_
    rw [List.append_nil] at gu1
    refine LdT.blk (pre := []) (post := []) (by rw [List.append_nil]; exact gu1) rfl ?_
    refine StT.blk (pre := []) (post := []) (zs := Sig.cells LM (j31 y sy)) (by rw [List.append_nil]; exact eu1.blk (e17.blk g16 id) (by omega)) rfl rfl fun u2 gu2 eu2 => ?_
    rw [List.append_nil] at gu2
    have hOg : ∀ j, MO y2 sy2 Y2 j → j ≠ b ∧ j ≠ g ∧ j < w17.heap.size := fun j hj => by
      have hbl := hM2.blk.lt
      rcases hO j hj with h | h
      · have := hOy j h
        exact ⟨this.1, this.2.1, by omega⟩
      · exact ⟨by omega, by omega, h.2⟩
    have hRu : RV u2 y2 E2 sy2 Y2 := (hR2.keepF eu1 fun j hj => hgz j hj).keepF eu2 fun j hj => (hOg j hj).2.1
    have hbl := hM2.blk.lt
    have hMu : MV u2 b x2 D2 sx2 X2 := ((hM2.keep e17).keepF eu1 (by omega) fun j hj => by have := (hM2.own j hj).2; omega).keepF eu2 (by omega) fun j hj => hOx2 j hj
    have Eu : Ext (fun _ => False) W u2 := Ext.new (Ext.new (E16.tr e17) eu1 fun j hj => by have := E16.size; omega) eu2 fun j hj => by omega
    have su1 := eu1.size
    have su2 := eu2.size
    refine ⟨fun w' => Blk w' g (Sig.cells LM (j31 y2 sy2)).toArray 108, gu2, Br.ne (fun q2 => absurd hd3.symm q2) fun _ => ?_⟩
    refine LdS.of (fun w' h' => h') (show (Sig.cells LM (j31 y2 sy2))[30]? = some (Slc.v sy2) from rfl) ?_
    have hMu := hMu.keep (Ext.refl _ u2).drew
    have hRu := hRu.keep (Ext.refl _ u2).drew
    have Eu := Eu.drew
    have gu2 : Blk u2.drew g (Sig.cells LM (j31 y2 sy2)).toArray 108 := gu2
    have su2 : u1.heap.size ≤ u2.drew.heap.size := su2
    generalize u2.drew = u3 at hMu hRu Eu gu2 su2 ⊢
    refine (c_depth hMu).mono ?_
    rintro r8 u4 ⟨rfl, rfl⟩
    have hXY : mc x2 D2 X2 = mc y2 E2 Y2 := hd4.symm
    obtain ⟨h1, h2, h3⟩ := mc_eq hXY
    refine ⟨gu2, Br.ne (fun q2 => absurd (by rw [hRu.sav.len, List.length_map, h3]) q2) fun _ => ?_⟩
    refine LdST.blk (pre := []) (post := [Slc.v sy2]) (fun w' (h' : Blk w' g (Sig.cells LM (j31 y2 sy2)).toArray 108) => h') rfl ?_
    refine (c_state hMu).mono ?_
    rintro r9 u5 ⟨t9, rfl, ht9, e9⟩
    refine ⟨e9.blk gu2 id, ?_⟩
    have hRu := hRu.keep e9
    refine (r_same (D := D2) (E := E2) (by rw [dsh_10]; exact ht9.iv) hRu.dash (by have := hMu.few; omega)).mono ?_
    rintro r10 u6 ⟨rfl, e10⟩
    rw [sameB_yes ((er_up _ _).trans h1) h2]
    have e11 := e9.tr e10
    exact Br.f rfl (k u6 (Eu.tr e11) (hMu.keep e11) (hRu.keep e10) (fun j hj => ⟨(hOg j hj).1, (hOg j hj).2.1, by have := (hOg j hj).2.2; have := e11.size; omega⟩) hOx2 hXY (e11.blk gu2 id))
  have next : ∀ (y2 : G) (E2 : List Int) (sy2 : Slc) (Y2 : List P) (u5 : World), Ext (fun _ => False) W u5 → MV u5 b x2 D2 sx2 X2 → RV u5 y2 E2 sy2 Y2 → (∀ j, MO y2 sy2 Y2 j → j ≠ b ∧ j ≠ g ∧ j < u5.heap.size) → (∀ j, MO x2 sx2 X2 j → j ≠ g) → mc x2 D2 X2 = mc y2 E2 Y2 → Blk u5 g (Sig.cells LM (j31 y2 sy2)).toArray 108 →
      ∃ n', n' < Q.length - i ∧ ∃ (i' : Nat) (x y : G) (D E : List Int) (sx sy : Slc) (X Y : List P), IntKind.i64.wrap ((i : Int) + 1) = (i' : Int) ∧ i' ≤ Q.length ∧ n' = Q.length - i' ∧ Ext (fun _ => False) W u5 ∧ MV u5 b x D sx X ∧ RV u5 y E sy Y ∧ (∀ j, MO y sy Y j → j ≠ b ∧ j ≠ g ∧ j < u5.heap.size) ∧ (∀ j, MO x sx X j → j ≠ g) ∧ mc x D X = mc y E Y ∧ Blk u5 g (Sig.cells LM (j31 y sy)).toArray 108 := fun y2 E2 sy2 Y2 u5 h1 h2 h3 h4 h5 h6 h7 =>
    ⟨Q.length - (i + 1), by omega, i + 1, x2, y2, D2, E2, sx2, sy2, X2, Y2, by rw [i64_id (by omega)]; rfl, by omega, rfl, h1, h2, h3, h4, h5, h6, h7⟩
  have hbl := hM2.blk.lt
  refine ⟨fun w' => Ext (fun _ => False) v0 w', Ext.refl _ _, ?_⟩
  refine LdST.blk (ts := LM) (pre := []) (post := []) (x := j31 y sy) (fun w' (h' : Ext (fun _ => False) v0 w') => by rw [List.append_nil]; exact h'.blk g16 id) rfl ?_
  refine ⟨by omega, by omega, Nn.of ?_⟩
  refine ldS_mk (fun w' (h' : Ext (fun _ => False) v0 w') => (hc w' (E16.tr h')).1) (ldS_mk (fun w' (h' : Ext (fun _ => False) v0 w') => (hc w' (E16.tr h')).2.1) (ldS_mk (fun w' (h' : Ext (fun _ => False) v0 w') => (hc w' (E16.tr h')).2.2) ?_))
  refine ⟨?_, ?_⟩
  · refine (r_do (K := K) hR16 (hov.keep E16) (by omega) (hK.keep E16)).mono ?_
    rintro X' e v1 ⟨y2, E2, sy2, Y2, rfl, hd2, hR2, ev1, hO⟩
    have sv1 := ev1.size
    refine (Hn.start v1).nw' (cs := Sig.cells LM (j31 zeroG nilS)) fun v2 H2 e2 => ?_
    have s2 := e2.size
    refine rest (fun v => false = true ∧ Ext (fun _ => False) W v) _ v2 e v1.heap.size _ _ y2 E2 sy2 Y2 (ev1.tr e2) hd2 (hR2.keep e2) (fun j hj => (hO j hj).imp id fun h => ⟨h.1, by omega⟩) (fun j hj => ?_) (H2.get 0 rfl) rfl sv1 (next y2 E2 sy2 Y2)
    rcases hO j hj with h | h
    · have := (hOy j h).2.2
      omega
    · omega
  · refine (Hn.start v0).nw' (cs := Sig.cells LM (j31 zeroG nilS)) fun v1 H1 e1 => ?_
    have gz := H1.get 0 rfl
    have gzl := gz.lt
    refine ⟨e1, (r_do (K := K) (hR16.keep e1) (hov.keep (E16.tr e1)) (by omega) (hK.keep (E16.tr e1))).mono ?_⟩
    rintro X' e v2 ⟨y2, E2, sy2, Y2, rfl, hd2, hR2, ev2, hO⟩
    refine rest (fun v => false = true ∧ Ext (fun _ => False) W v) _ v2 e v0.heap.size _ _ y2 E2 sy2 Y2 (e1.tr ev2) hd2 hR2 (fun j hj => (hO j hj).imp id fun h => ⟨by omega, h.2⟩) (fun j hj => ?_) (ev2.blk gz id) rfl (Nat.le_refl _) (next y2 E2 sy2 Y2)
    rcases hO j hj with h | h
    · have := (hOy j h).2.2
      omega
    · omega
end
end Ste
end Go.Proofs.YtjbeembbnkmpeaaDoor
