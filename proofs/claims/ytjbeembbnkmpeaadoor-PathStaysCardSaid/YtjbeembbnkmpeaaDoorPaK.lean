/- Paths: the layer's sample holds. Conditions: the tables are laid; Box. -/
import Derived.Test.YtjbeembbnkmpeaaDoorPaJ
namespace Go.Proofs.YtjbeembbnkmpeaaDoor
namespace Pat
open Sh Mat Fix Opr
set_option linter.unusedVariables false
set_option linter.unusedSimpArgs false
set_option maxRecDepth 8000
set_option maxHeartbeats 8000000
attribute [local irreducible] Ld Sh.St Nw Nn LdS LdT LdST StT
theorem t_br {c : Bool} {A B : Prop} (h : c = true) (k : A) : Br c A B := by rw [h]; exact k
theorem f_br {c : Bool} {A B : Prop} (h : c = false) (k : B) : Br c A B := by rw [h]; exact k
theorem c_lives {W : World} (hbox : BoxOk) (hs : AS W) (hpm : PM W) : C34 W fun r w1 => r = true ∧ Ext (fun _ => False) W w1 := by
  refine T34 _ _ ?_
  unfold S34
  refine (r_one W).mono ?_
  rintro r w2 ⟨rfl, e2⟩
  have s2 := e2.size
  refine (Hn.start w2).nw fun w3 K => ?_
  simp only [List.nil_append, add_lit, Nat.zero_add] at K ⊢
  iterate 5 (refine K.st 0 rfl (by simp) fun _ K => ?_; simp only [List.set_cons_zero, List.set_cons_succ] at K)
  refine K.st 0 rfl (by simp) fun w4 K => ?_
  simp only [List.set_cons_zero, List.set_cons_succ] at K
  have hmat : Blk w4 w2.heap.size (mrow oneM).toArray 23 := K.get 0 rfl
  have E4 := e2.tr K.ext
  refine (c_new w4).mono ?_
  rintro r w5 ⟨b, rfl, hb, hpv, e5⟩
  have s4 := E4.size
  have l4 := hmat.lt
  have H : LS W w5 b pa0 nilS [(w2.heap.size, mrow oneM, 23)] [] := ⟨E4.tr e5, hpv, fun j hj => (by obtain ⟨a', ha, _⟩ := hj; cases ha), by omega, fun q hq => by
    rw [List.mem_singleton.1 hq]
    exact ⟨e5.blk hmat id, fun hj => (by obtain ⟨a', ha, _⟩ := hj; cases ha), by show w2.heap.size ≠ b; omega⟩, fun q hq => (List.not_mem_nil hq).elim⟩
  have hM : ∀ {w' p sg N M}, LS W w' b p sg ((w2.heap.size, mrow oneM, 23) :: N) M → Blk w' w2.heap.size (mrow oneM).toArray 23 := fun h => h.get 0 rfl
  clear K hmat
  refine f_br rfl ?_
  have H := H.keep (Ext.refl _ _).drew
  refine ⟨fun w' => Blk w' w2.heap.size (mrow oneM).toArray 23, hM H, ?_⟩
  iterate 6 refine LdS.of (fun w' h' => h') rfl ?_
  refine (Hn.start _).nw (cs := ints [1, 1]) fun _ K => ?_
  have H := H.keep K.ext
  refine ⟨hM H, (c_opN (l := [1, 1]) (IV.of (K.get 0 rfl)) (by simp)).mono ?_⟩
  rintro r _ ⟨_, rfl, ho, ef⟩
  have H := H.keep ef
  refine ⟨hM H, (LS.do_ hs H ho (by simp) d_l0).mono ?_⟩
  rintro r _ ⟨rfl, _, H⟩
  have H := H.keep (Ext.refl _ _).drew
  refine ⟨fun w' => Blk w' w2.heap.size (mrow oneM).toArray 23, hM H, ?_⟩
  iterate 6 refine LdS.of (fun w' h' => h') rfl ?_
  refine (Hn.start _).nw (cs := ints [1, 1]) fun _ K => ?_
  have H := H.keep K.ext
  refine ⟨hM H, (c_opN (l := [1, 1]) (IV.of (K.get 0 rfl)) (by simp)).mono ?_⟩
  rintro r _ ⟨_, rfl, ho, ef⟩
  have H := H.keep ef
  refine ⟨hM H, (LS.do_ hs H ho (by simp) d_m).mono ?_⟩
  rintro r _ ⟨rfl, _, H⟩
  have H := H.keep (Ext.refl _ _).drew
  refine ⟨fun w' => Blk w' w2.heap.size (mrow oneM).toArray 23, hM H, ?_⟩
  iterate 6 refine LdS.of (fun w' h' => h') rfl ?_
  refine (Hn.start _).nw (cs := ints [2, 1]) fun _ K => ?_
  have H := H.keep K.ext
  refine ⟨hM H, (c_opN (l := [2, 1]) (IV.of (K.get 0 rfl)) (by simp)).mono ?_⟩
  rintro r _ ⟨_, rfl, ho, ef⟩
  have H := H.keep ef
  refine ⟨hM H, (LS.do_ hs H ho (by simp) d_l).mono ?_⟩
  rintro r _ ⟨rfl, _, H⟩
  have H := H.keep (Ext.refl _ _).drew
  refine ⟨fun w' => Blk w' w2.heap.size (mrow oneM).toArray 23, hM H, ?_⟩
  iterate 6 refine LdS.of (fun w' h' => h') rfl ?_
  refine (Hn.start _).nw (cs := ints [2]) fun _ K => ?_
  have H := H.keep K.ext
  refine ⟨hM H, (c_opN (l := [2]) (IV.of (K.get 0 rfl)) (by simp)).mono ?_⟩
  rintro r _ ⟨_, rfl, ho, ef⟩
  have H := H.keep ef
  refine ⟨hM H, (LS.do_ hs H ho (by simp) d_l1).mono ?_⟩
  rintro r _ ⟨rfl, _, H⟩
  have H := H.keep (Ext.refl _ _).drew
  refine ⟨fun w' => Blk w' w2.heap.size (mrow oneM).toArray 23, hM H, ?_⟩
  iterate 6 refine LdS.of (fun w' h' => h') rfl ?_
  refine (c_opN (l := []) (IV.nil _) (by simp)).mono ?_
  rintro r _ ⟨_, rfl, ho, ef⟩
  have H := H.keep ef
  refine ⟨hM H, (LS.do_ hs H ho (by simp) d_q).mono ?_⟩
  rintro r _ ⟨rfl, _, H⟩
  have H := H.keep (Ext.refl _ _).drew
  refine ⟨fun w' => Blk w' w2.heap.size (mrow oneM).toArray 23, hM H, ?_⟩
  iterate 6 refine LdS.of (fun w' h' => h') rfl ?_
  refine (Hn.start _).nw (cs := ints [3, 3, 4, 1]) fun _ K => ?_
  have H := H.keep K.ext
  refine ⟨hM H, (c_opN (l := [3, 3, 4, 1]) (IV.of (K.get 0 rfl)) (by simp)).mono ?_⟩
  rintro r _ ⟨_, rfl, ho, ef⟩
  have H := H.keep ef
  refine ⟨hM H, (LS.do_ hs H ho (by simp) d_v).mono ?_⟩
  rintro r _ ⟨rfl, _, H⟩
  refine (c_segs H.pv).mono ?_
  rintro sA w20 ⟨hA, eA⟩
  have hAl : sA.len = 3 := hA.sv.1
  have H := H.keep eA
  refine (c_segs H.pv).mono ?_
  rintro sB w21 ⟨hB, eB⟩
  have H := H.keep eB
  refine (hbox _ _ _ hB.sv (by decide)).mono ?_
  rintro bx is w22 ⟨hbx, eC⟩
  rw [show boxP (ptsL p3.L) = _ from d_box] at hbx
  cases hbx
  have H := H.keep eC
  have P22 := H.pv
  refine (Hn.start w22).nw fun _ K => ?_
  simp only [List.nil_append] at K
  iterate 4 (refine K.st 0 rfl (by simp) fun _ K => ?_; simp only [List.set_cons_zero, List.set_cons_succ] at K)
  have H := (H.keep K.ext).push (K.get 0 rfl) P22 (Nat.le_refl _)
  simp only [List.cons_append, List.nil_append] at H
  refine (c_opN (l := []) (IV.nil _) (by simp)).mono ?_
  rintro r _ ⟨_, rfl, ho, ef⟩
  have H := H.keep ef
  have PB1 := H.pv
  refine (LS.paint_ hs hpm H ho (by simp) (by decide) d_s).mono ?_
  rintro r1 is1 e1 w31 ⟨he1, hi1, sp1, hr1, hsv1, hso1, sg1, H, hnil1, hcp1⟩
  have hr1 : r1 = mkPt 4 sp1 (0, 5, 0, 0, 0) (0, 0, 0, 0, 0) := hr1
  have hi1 : is1 = true := hi1
  have he1 : e1 = 0 := he1
  subst hr1 hi1 he1
  have P31 := H.pv
  refine (Hn.start w31).nw (cs := Sig.cells LPt pt0) fun _ K => ?_
  simp only [List.nil_append] at K
  refine StT.blk (pre := []) (post := []) (zs := Sig.cells LPt pt0) (ts := LPt) (by rw [List.append_nil]; exact K.get 0 rfl) rfl rfl fun w41 g41 e41 => ?_
  rw [List.append_nil] at g41
  have E41 : Ext (fun _ => False) w31 w41 := Ext.new K.ext e41 fun j hj => by have hj : j = w31.heap.size := hj; omega
  have H := (H.keep E41).push g41 P31 (Nat.le_refl _)
  simp only [List.cons_append, List.nil_append] at H
  obtain rfl : sg1 = nilS := hnil1 rfl
  have hsv1 : SV _ sp1 (p3.L ++ [clS]) := hsv1.keep E41
  have hso1' : ∀ j, sp1.own j → j < w41.heap.size := fun j hj => hsv1.own_lt (by simp) hj
  have H : LS W w41 b pa0 nilS _ [(sp1, p3.L ++ [clS])] := ⟨H.ext, H.pv, H.own, H.ge, H.pin, fun q hq => by
    rw [List.mem_singleton.1 hq]
    refine ⟨hsv1, fun j hj => ⟨fun hj' => (by obtain ⟨a', ha, _⟩ := hj'; cases ha), ?_, hso1' j hj⟩⟩
    exact (hso1 j hj).elim (fun h => PB1.own j h) fun h => by have := PB1.blk.lt; omega⟩
  refine (c_opN (l := []) (IV.nil _) (by simp)).mono ?_
  rintro r _ ⟨_, rfl, ho, ef⟩
  have H := H.keep ef
  have PB2 := H.pv
  refine (LS.paint_ hs hpm H ho (by simp) (by decide) d_n).mono ?_
  rintro r2 is2 e2 w32 ⟨he2, hi2, sp2, hr2, hsv2, hso2, sg2, H, hnil2, hcp2⟩
  have hr2 : r2 = pt0 := hr2
  have hi2 : is2 = false := hi2
  have he2 : e2 = 0 := he2
  subst hr2 hi2 he2
  have P32 := H.pv
  refine (Hn.start w32).nw (cs := Sig.cells LPt pt0) fun _ K => ?_
  simp only [List.nil_append] at K
  refine StT.blk (pre := []) (post := []) (zs := Sig.cells LPt pt0) (ts := LPt) (by rw [List.append_nil]; exact K.get 0 rfl) rfl rfl fun w42 g42 e42 => ?_
  rw [List.append_nil] at g42
  have E42 : Ext (fun _ => False) w32 w42 := Ext.new K.ext e42 fun j hj => by have hj : j = w32.heap.size := hj; omega
  have H := (H.keep E42).push g42 P32 (Nat.le_refl _)
  simp only [List.cons_append, List.nil_append] at H
  refine (Hn.start _).nw (cs := ints [1, 1]) fun _ K => ?_
  have H := H.keep K.ext
  refine (c_opN (l := [1, 1]) (IV.of (K.get 0 rfl)) (by simp)).mono ?_
  rintro r _ ⟨_, rfl, ho, ef⟩
  have H := H.keep ef
  have PB3 := H.pv
  refine (LS.paint_ hs hpm H ho (by simp) (by decide) d_pm).mono ?_
  rintro r3 is3 e3 w33 ⟨he3, hi3, sp3, hr3, hsv3, hso3, sg3, H, hnil3, hcp3⟩
  have hr3 : r3 = pt0 := hr3
  have hi3 : is3 = false := hi3
  have he3 : e3 = 8 := he3
  subst hr3 hi3 he3
  have P33 := H.pv
  refine (Hn.start w33).nw (cs := Sig.cells LPt pt0) fun _ K => ?_
  simp only [List.nil_append] at K
  refine StT.blk (pre := []) (post := []) (zs := Sig.cells LPt pt0) (ts := LPt) (by rw [List.append_nil]; exact K.get 0 rfl) rfl rfl fun w43 g43 e43 => ?_
  rw [List.append_nil] at g43
  have E43 : Ext (fun _ => False) w33 w43 := Ext.new K.ext e43 fun j hj => by have hj : j = w33.heap.size := hj; omega
  have H := (H.keep E43).push g43 P33 (Nat.le_refl _)
  simp only [List.cons_append, List.nil_append] at H
  refine (Hn.start _).nw (cs := ints [0, 0, 2, 3]) fun _ K => ?_
  have H := H.keep K.ext
  refine (c_opN (l := [0, 0, 2, 3]) (IV.of (K.get 0 rfl)) (by simp)).mono ?_
  rintro r _ ⟨_, rfl, ho, ef⟩
  have H := H.keep ef
  refine (r_scale 20000 10000 _).mono ?_
  rintro r _ ⟨rfl, esc⟩
  have ho := ho.keep esc
  have H := H.keep esc
  refine (LS.do_ hs H ho (by simp) d_re).mono ?_
  rintro r _ ⟨rfl, _, H⟩
  have H := H.keep (Ext.refl _ _).drew
  refine ⟨fun w' => Blk w' w2.heap.size (mrow oneM).toArray 23, hM H, ?_⟩
  iterate 6 refine LdS.of (fun w' h' => h') rfl ?_
  refine (c_opN (l := []) (IV.nil _) (by simp)).mono ?_
  rintro r _ ⟨_, rfl, ho, ef⟩
  have H := H.keep ef
  refine ⟨hM H, (LS.do_ hs H ho (by simp) d_W).mono ?_⟩
  rintro r _ ⟨rfl, _, H⟩
  refine (c_segs H.pv).mono ?_
  rintro sR w60 ⟨hR, eR⟩
  have P60 := H.pv
  have H := (H.keep eR).pushS hR P60
  simp only [List.cons_append, List.nil_append] at H
  refine (c_opN (l := []) (IV.nil _) (by simp)).mono ?_
  rintro r _ ⟨_, rfl, ho, ef⟩
  have H := H.keep ef
  have PB4 := H.pv
  refine (LS.paint_ hs hpm H ho (by simp) (by decide) d_n5).mono ?_
  rintro r4 is4 e4 w34 ⟨he4, hi4, sp4, hr4, hsv4, hso4, sg4, H, hnil4, hcp4⟩
  have hr4 : r4 = mkPt 8 sp4 (0, 0, 0, 0, 0) (0, 0, 0, 0, 0) := hr4
  have hi4 : is4 = true := hi4
  have he4 : e4 = 0 := he4
  subst hr4 hi4 he4
  have P34 := H.pv
  refine (Hn.start w34).nw (cs := Sig.cells LPt pt0) fun _ K => ?_
  simp only [List.nil_append] at K
  refine StT.blk (pre := []) (post := []) (zs := Sig.cells LPt pt0) (ts := LPt) (by rw [List.append_nil]; exact K.get 0 rfl) rfl rfl fun w44 g44 e44 => ?_
  rw [List.append_nil] at g44
  have E44 : Ext (fun _ => False) w34 w44 := Ext.new K.ext e44 fun j hj => by have hj : j = w34.heap.size := hj; omega
  have H := (H.keep E44).push g44 P34 (Nat.le_refl _)
  simp only [List.cons_append, List.nil_append] at H
  refine (hbox _ _ _ (SV.nil _) (by decide)).mono ?_
  rintro bx2 is2' w70 ⟨hbx2, eX⟩
  rw [show boxP (ptsL []) = _ from d_box0] at hbx2
  cases hbx2
  have H := H.keep eX
  refine (Hn.start w70).nw fun _ K => ?_
  simp only [List.nil_append] at K
  iterate 4 (refine K.st 0 rfl (by simp) fun _ K => ?_; simp only [List.set_cons_zero, List.set_cons_succ] at K)
  have H := H.keep K.ext
  iterate 6 refine f_br (by decide) ?_
  rw [hAl]
  refine f_br (by decide) (f_br rfl ?_)
  have hb1 := H.get 1 rfl
  iterate 4 refine Ld.of hb1 rfl ?_
  refine f_br (by decide) (f_br rfl (f_br (by decide) ?_))
  have hb2 := H.get 2 rfl
  have sv1 := H.gets 0 rfl
  have sv1l : sp1.len = 4 := sv1.1
  refine Ld.of hb2 rfl (f_br rfl ?_)
  refine Ld.of hb2 rfl ?_
  show Br (((sp1.len : Nat) : Int) != 4) _ _
  rw [sv1l]
  refine f_br (by decide) ?_
  refine Ld.of hb2 rfl ?_
  obtain ⟨ad3, ha3, hc3⟩ := sv1.get (i := 3) rfl
  obtain ⟨ad2, ha2, hc2⟩ := sv1.get (i := 2) rfl
  rw [ha3] at ha2
  cases ha2
  have hc30 := hc3 0 _ rfl
  rw [add_add', Nat.add_zero] at hc30
  show 0 ≤ (3 : Int) ∧ (3 : Int) < ((sp1.len : Nat) : Int) ∧ Nn sp1.p _
  rw [sv1l, ha3]
  refine ⟨by decide, by decide, Nn.of (Ld.mk hc30 ?_)⟩
  refine f_br (by decide) (Ld.of hb2 rfl ?_)
  show 0 ≤ (2 : Int) ∧ (2 : Int) < ((sp1.len : Nat) : Int) ∧ Nn sp1.p _
  rw [sv1l, ha3]
  refine ⟨by decide, by decide, Nn.of (Ld.mk (hc2 1 _ rfl) ?_)⟩
  have hc22 := hc2 2 _ rfl
  rw [← add_add' _ 1 1] at hc22
  refine Ld.mk hc22 (f_br (by decide) ?_)
  refine Ld.of hb2 rfl (f_br rfl ?_)
  refine f_br rfl (f_br (by decide) (f_br (by decide) ?_))
  have H := H.keep (Ext.refl _ _).drew
  have hS : ∀ {w'}, SV w' sR p5.L → sR.len = 5 := fun h => h.1
  refine ⟨fun w' => SV w' sR p5.L ∧ Blk w' w34.heap.size (Sig.cells LPt (mkPt 8 sp4 (0, 0, 0, 0, 0) (0, 0, 0, 0, 0))).toArray 76, ⟨H.gets 1 rfl, H.get 5 rfl⟩, ?_⟩
  refine t_br (by decide) (t_br (by decide) ?_)
  have svR := H.gets 1 rfl
  have svRl : sR.len = 5 := svR.1
  rw [svRl]
  refine t_br (by decide) ?_
  obtain ⟨adR, haR, hcR⟩ := svR.get (i := 2) rfl
  rw [haR]
  have cellR : ∀ (j : Nat) (v : Value), (sgrow (lnS (40000, 30000)))[j]? = some v → ∀ w', (SV w' sR p5.L ∧ Blk w' w34.heap.size (Sig.cells LPt (mkPt 8 sp4 (0, 0, 0, 0, 0) (0, 0, 0, 0, 0))).toArray 76) → w'.cell? ((adR.add (2 * 7)).add j) = some v := fun j v hj w' h' => by
    obtain ⟨ad', ha', hc'⟩ := h'.1.get (i := 2) rfl
    rw [haR] at ha'
    cases ha'
    exact hc' j v hj
  refine ⟨by decide, by decide, Nn.of (ldS_mk (cellR 5 _ rfl) (ldS_mk (x := 30000) (fun w' h' => by have := cellR 6 _ rfl w' h'; rw [← add_add' _ 5 1] at this; exact this) ⟨⟨H.gets 1 rfl, H.get 5 rfl⟩, ?_⟩))⟩
  refine t_br (by decide) (t_br rfl (t_br (by decide) ?_))
  refine LdS.of (fun w' h' => h'.2) rfl (t_br rfl ?_)
  refine (c_segs H.pv).mono ?_
  rintro sZ w80 ⟨hZ, eZ⟩
  have hZl : sZ.len = 0 := hZ.sv.1
  have H := H.keep eZ
  refine ⟨fun w' => Blk w' w2.heap.size (mrow oneM).toArray 23, hM H, ?_⟩
  rw [hZl]
  refine t_br (by decide) (t_br rfl ?_)
  iterate 6 refine LdS.of (fun w' h' => h') rfl ?_
  refine (Hn.start _).nw (cs := ints [1, 1]) fun _ K => ?_
  have H := H.keep K.ext
  refine ⟨hM H, (c_opN (l := [1, 1]) (IV.of (K.get 0 rfl)) (by simp)).mono ?_⟩
  rintro r _ ⟨_, rfl, ho, ef⟩
  have H := H.keep ef
  refine ⟨hM H, (c_doNil _ _ _ _ _).mono ?_⟩
  rintro r _ ⟨rfl, ef⟩
  have H := H.keep ef
  refine t_br (by decide) ?_
  refine (c_segs0 _).mono ?_
  rintro r _ ⟨rfl, rfl⟩
  refine t_br (by decide) ?_
  refine (c_same (H.gets 1 rfl) (H.gets 1 rfl) (by show p5.L.length ≤ 100000; decide)).mono ?_
  rintro r _ ⟨rfl, ef⟩
  have H := H.keep ef
  refine t_br (decide_eq_true rfl) ?_
  refine (c_same (H.gets 1 rfl) (SV.nil _) (by show p5.L.length ≤ 100000; decide)).mono ?_
  rintro r _ ⟨rfl, ef⟩
  have H := H.keep ef
  exact ⟨by show (!decide (p5.L = [])) = true; decide, H.ext⟩
end Pat
end Go.Proofs.YtjbeembbnkmpeaaDoor

