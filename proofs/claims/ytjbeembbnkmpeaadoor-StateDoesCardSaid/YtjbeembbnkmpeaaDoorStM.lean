/- What the layer's sample shows; StateSame. Condition: the table of spaces is laid. -/
import Derived.Test.YtjbeembbnkmpeaaDoorStL
namespace Go.Proofs.YtjbeembbnkmpeaaDoor
namespace Ste
open Sh Mat Opr
set_option linter.unusedVariables false
set_option linter.unusedSimpArgs false
set_option maxRecDepth 8000
set_option maxHeartbeats 8000000
attribute [local irreducible] Ld Sh.St Nw Nn LdS LdT LdST StT
section
variable {w w1 : World} {x y : G} {D E : List Int} {S : List P}
theorem wid (x : G) (t : Slc) : (up10 x t).2.2.2.2.2.2.1 = (er x).2.2.2.2.2.2.1 := by
  unfold er up10
  dsimp only
theorem mc_now {g : G} {F : List Int} {q : List P} (h : mc x D S = ⟨(g, F), q⟩) : er x = g ∧ D = F ∧ S.length = q.length := by
  unfold mc at h
  injection h with h1 h2
  injection h1 with h3 h4
  refine ⟨h3, h4, ?_⟩
  rw [← h2, List.length_reverse, List.length_map]
theorem c_lives (hs : AS w) (hw1 : 1 < w.heap.size) : C47 w fun r w1 => r = true ∧ Ext (fun _ => False) w w1 := by
  refine T47 _ _ ?_
  unfold S47
  refine (c_plain w).mono ?_
  rintro r w2 ⟨rfl, e2⟩
  have E := e2
  refine (c_new pl w2).mono ?_
  rintro r w4 ⟨e4, h4⟩
  rw [if_pos (by decide)] at h4
  obtain ⟨b, rfl, hb, hm⟩ := h4
  have s2 := e2.size
  have hb1 : b ≠ 1 := by omega
  have hs := hs.keep (e2.tr e4)
  have E := E.tr e4
  have hM : mc (firstG pl) [] [] = m0 := rfl
  refine (c_none ⟨#[113]⟩ _).mono ?_
  rintro r v1 ⟨rfl, f1⟩
  have E := E.tr f1
  refine (c_step (hs.keep f1) hb1 (hm.keep f1) hM (OVnil _) (by simp) (K := []) (OVnil _) (by simp) d_q).mono ?_
  rintro r u1 ⟨rfl, x1, D1, sv1, S1, hM, hm, hs, e101⟩
  have E := Ext.new E e101 fun j hj => by omega
  refine (c_op ⟨#[119]⟩ 2 _).mono ?_
  rintro r v2 ⟨s102, rfl, ho, f2⟩
  have E := E.tr f2
  refine (c_step (hs.keep f2) hb1 (hm.keep f2) hM ho (by simp) (K := []) (OVnil _) (by simp) d_w).mono ?_
  rintro r u2 ⟨rfl, x2, D2, sv2, S2, hM, hm, hs, e102⟩
  have E := Ext.new E e102 fun j hj => by omega
  refine (c_state hm).mono ?_
  rintro r w14 ⟨t, rfl, _, e14⟩
  have E := E.tr e14
  have hm := hm.keep e14
  have hs := hs.keep e14
  refine (c_depth hm).mono ?_
  rintro r w16 ⟨rfl, rfl⟩
  have hwid : (up10 x2 t).2.2.2.2.2.2.1 = 20000 := by
    rw [wid, (mc_now hM).1]
    rfl
  have hdep : S2.length = 1 := (mc_now hM).2.2
  refine (c_none ⟨#[81]⟩ _).mono ?_
  rintro r v3 ⟨rfl, f3⟩
  have E := E.tr f3
  refine (c_step (hs.keep f3) hb1 (hm.keep f3) hM (OVnil _) (by simp) (K := []) (OVnil _) (by simp) d_Q).mono ?_
  rintro r u3 ⟨rfl, x3, D3, sv3, S3, hM, hm, hs, e103⟩
  have E := Ext.new E e103 fun j hj => by omega
  refine (c_none ⟨#[81]⟩ _).mono ?_
  rintro r v4 ⟨rfl, f4⟩
  have E := E.tr f4
  refine (c_step (hs.keep f4) hb1 (hm.keep f4) hM (OVnil _) (by simp) (K := []) (OVnil _) (by simp) d_Q2).mono ?_
  rintro r u4 ⟨rfl, x4, D4, sv4, S4, hM, hm, hs, e104⟩
  have E := Ext.new E e104 fun j hj => by omega
  refine (c_op ⟨#[74]⟩ 3 _).mono ?_
  rintro r v5 ⟨s105, rfl, ho, f5⟩
  have E := E.tr f5
  refine (c_step (hs.keep f5) hb1 (hm.keep f5) hM ho (by simp) (K := []) (OVnil _) (by simp) d_J).mono ?_
  rintro r u5 ⟨rfl, x5, D5, sv5, S5, hM, hm, hs, e105⟩
  have E := Ext.new E e105 fun j hj => by omega
  refine (c_op ⟨#[108]⟩ 1 _).mono ?_
  rintro r v6 ⟨s106, rfl, ho, f6⟩
  have E := E.tr f6
  refine (c_step (hs.keep f6) hb1 (hm.keep f6) hM ho (by simp) (K := []) (OVnil _) (by simp) d_l).mono ?_
  rintro r u6 ⟨rfl, x6, D6, sv6, S6, hM, hm, hs, e106⟩
  have E := Ext.new E e106 fun j hj => by omega
  refine (c_op ⟨#[114, 103]⟩ 1 _).mono ?_
  rintro r v7 ⟨s107, rfl, ho, f7⟩
  have E := E.tr f7
  refine (c_step (hs.keep f7) hb1 (hm.keep f7) hM ho (by simp) (K := []) (OVnil _) (by simp) d_rg).mono ?_
  rintro r u7 ⟨rfl, x7, D7, sv7, S7, hM, hm, hs, e107⟩
  have E := Ext.new E e107 fun j hj => by omega
  refine BrV (fun _ => ?_) fun q => absurd q (by decide)
  refine BrV (fun _ => ?_) fun q => absurd q (by decide)
  rw [hwid, hdep]
  refine BrV (fun _ => ?_) fun q => absurd q (by decide)
  refine BrV (fun _ => ?_) fun q => absurd q (by decide)
  refine BrV (fun _ => ?_) fun q => absurd q (by decide)
  refine (c_state hm).mono ?_
  rintro r w38 ⟨t2, rfl, _, e38⟩
  have E := E.tr e38
  have hm := hm.keep e38
  have hwid2 : (up10 x7 t2).2.2.2.2.2.2.1 = 10000 := by
    rw [wid, (mc_now hM).1]
    rfl
  rw [hwid2]
  refine BrV (fun _ => ?_) fun q => absurd q (by decide)
  refine (c_depth hm).mono ?_
  rintro r w40 ⟨rfl, rfl⟩
  rw [show S7.length = 0 from (mc_now hM).2.2]
  refine BrV (fun _ => ?_) fun q => absurd q (by decide)
  refine BrV (fun _ => ?_) fun q => absurd q (by decide)
  refine BrV (fun _ => ?_) fun q => absurd q (by decide)
  refine BrV (fun _ => ?_) fun q => absurd q (by decide)
  refine BrV (fun _ => ?_) fun q => absurd q (by decide)
  refine (c_none _ _).mono ?_
  rintro r w42 ⟨rfl, e42⟩
  have E := E.tr e42
  refine (c_donil _ _ _ _).mono ?_
  rintro r w44 ⟨rfl, e44⟩
  have E := E.tr e44
  refine BrV (fun _ => ?_) fun q => absurd q (by decide)
  refine (c_depth0 _).mono ?_
  rintro r w46 ⟨rfl, rfl⟩
  refine BrV (fun _ => ?_) fun q => absurd q (by decide)
  refine (c_state0 _).mono ?_
  rintro r w48 ⟨rfl, e48⟩
  have E := E.tr e48
  refine (c_same (x := zeroG) (y := zeroG) (D := []) (E := []) (IV.nil _) (IV.nil _) (by simp)).mono ?_
  rintro r w50 ⟨rfl, e50⟩
  have E := E.tr e50
  rw [sameB_refl]
  refine BrV (fun _ => ?_) fun q => absurd q (by decide)
  refine (c_new (1099511627776, 0, 0, 0, 0, 0) _).mono ?_
  rintro r w52 ⟨e52, h52⟩
  rw [if_neg (by decide)] at h52
  subst h52
  have E := E.tr e52
  refine BrV (fun _ => ?_) fun q => absurd q (by decide)
  refine (c_plain _).mono ?_
  rintro r w54 ⟨rfl, e54⟩
  have E := E.tr e54
  refine (c_first pl _).mono ?_
  rintro r w56 ⟨rfl, e56⟩
  have E := E.tr e56
  refine BrV (fun _ => ?_) fun q => absurd q (by decide)
  refine (c_plain _).mono ?_
  rintro r w58 ⟨rfl, e58⟩
  have E := E.tr e58
  refine (c_first pl _).mono ?_
  rintro r w60 ⟨rfl, e60⟩
  have E := E.tr e60
  refine (c_plain _).mono ?_
  rintro r w62 ⟨rfl, e62⟩
  have E := E.tr e62
  refine (c_first' pl _).mono ?_
  rintro r w64 ⟨rfl, e64⟩
  have E := E.tr e64
  refine (c_same (x := firstG pl) (y := firstG pl) (D := []) (E := []) (IV.nil _) (IV.nil _) (by simp)).mono ?_
  rintro r w66 ⟨rfl, e66⟩
  exact ⟨sameB_refl _ _, E.tr e66⟩
theorem same_law (hs : AS w) (hw1 : 1 < w.heap.size) (hx : IV w (dsh x) D) (hy : IV w (dsh y) E) : C12 x y w fun r w1 => r = true ∧ Ext (fun _ => False) w w1 := by
  refine T12 _ _ _ _ ?_
  unfold S12
  refine (Hn.start w).nw fun w2 H => ?_
  refine H.nw fun w3 H => ?_
  simp only [List.cons_append, List.nil_append, add_lit, Nat.zero_add] at H ⊢
  have lv : ∀ {w4 : World}, Ext (fun _ => False) w w4 → C47 w4 fun r w1 => r = true ∧ Ext (fun _ => False) w w1 := fun e => (c_lives (hs.keep e) (by have := e.size; omega)).mono fun r w5 ⟨h, e5⟩ => ⟨h, e.tr e5⟩
  refine H.ld 0 rfl (at10 _) ?_
  refine Br.dec (fun _ => lv H.ext) fun q1 => H.ld 1 rfl (at10 _) ?_
  refine Br.dec (fun _ => lv H.ext) fun q2 => ?_
  have h1 := hx.1
  have h2 := hy.1
  have hD : D.length ≤ 100 := by
    change ¬ (((dsh x).len : Nat) : Int) > 100 at q1
    omega
  have H := H.drew
  refine ⟨fun w' => Blk w' w.heap.size (Sig.cells LG x).toArray 30 ∧ Blk w' w2.heap.size (Sig.cells LG y).toArray 30, ⟨H.get 0 rfl, H.get 1 rfl⟩, ?_⟩
  have l0 : ∀ {U : World → Prop} {K : G → Prop} {b : Nat} {z : G}, (∀ w, U w → Blk w b (Sig.cells LG z).toArray 30) → K z → LdST U ⟨b, 0, none⟩ 0 LG K := fun h k => LdST.blk (pre := []) (post := []) (fun w hw => by rw [List.append_nil]; exact h w hw) rfl k
  refine l0 (fun _ h => h.1) (l0 (fun _ h => h.2) (l0 (fun _ h => h.1) (l0 (fun _ h => h.2) ?_)))
  refine (c_same (D := D) (E := E) (hx.keep H.ext) (hy.keep H.ext) (by omega)).mono ?_
  rintro r w4 ⟨rfl, e4⟩
  have H := H.keep e4
  refine ⟨⟨H.get 0 rfl, H.get 1 rfl⟩, (r_same (D := D) (E := E) (hx.keep H.ext) (hy.keep H.ext) (by omega)).mono ?_⟩
  rintro r w5 ⟨rfl, e5⟩
  have H := H.keep e5
  refine ⟨fun w' => Blk w' w.heap.size (Sig.cells LG x).toArray 30, H.get 0 rfl, Br.eq (fun _ => ?_) fun q => absurd rfl q⟩
  refine l0 (fun _ h => h) (l0 (fun _ h => h) ?_)
  refine (c_same (D := D) (E := D) (hx.keep H.ext) (hx.keep H.ext) (by omega)).mono ?_
  rintro r w6 ⟨rfl, e6⟩
  rw [sameB_refl]
  exact lv (H.ext.tr e6)
end
end Ste
end Go.Proofs.YtjbeembbnkmpeaaDoor
