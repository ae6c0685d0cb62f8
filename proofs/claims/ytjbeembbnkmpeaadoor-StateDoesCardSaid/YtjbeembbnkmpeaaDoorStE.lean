/- Graphics states: the text's values, as the program changes them. Conditions: sizes; the operator has been checked. -/
import Derived.Test.YtjbeembbnkmpeaaDoorStD
namespace Go.Proofs.YtjbeembbnkmpeaaDoor
namespace Ste
open Sh Mat Opr
set_option linter.unusedVariables false
set_option linter.unusedSimpArgs false
set_option maxRecDepth 8000
set_option maxHeartbeats 8000000
attribute [local irreducible] Ld Sh.St Nw Nn Lt LdS LdT LdST StT
section
variable {w w' w1 w7 : World} {s : Slc} {l : List Int} {L K : List Ob} {b : Nat} {x x' : G} {D : List Int} {a d : ByteArray} {nm : By}
theorem c_text (hb : SB w b x D) (h : OV w s L) (hck : chkF (bl a) L (bl d) = 0) (hin : bl a ∈ ([[84, 99], [84, 119], [84, 122], [84, 76], [84, 115], [84, 102], [84, 114]] : List By)) : C169 (some ⟨b, 22, none⟩) (a, s, d) w (fun r w1 => r = true ∧ ChgOk w w1 b x D (bl a) L K) fun v w1 => ChgEr w w1 b x D (bl a) L K v := by
  refine T169 _ (a, s, d) _ _ _ ?_
  unfold S169
  refine (Hn.start w).nw fun w2 H => ?_
  simp only [List.nil_append] at H
  have hlen := (chk0 hck).2.1
  have hLl := h.1
  iterate 1 refine H.ld 0 rfl rfl ?_
  refine BrB (fun q => ?_) fun q => ?_
  · have q : bl a = [84, 99] := q
    have hl1 : L.length = 1 := by rw [q] at hlen; exact hlen.symm
    have hx := obx h (i := 0) (by omega)
    refine H.ld 0 rfl rfl ?_
    obtain ⟨ad, ha, c0, c1, c2, c3, c4, c5⟩ := (h.keep H.ext).get hx
    rw [ha]
    refine ⟨by omega, by omega, Nn.of (Ld.mk c0 (Ld.mk c1 (Ld.mk c2 (Ld.mk c3 (Ld.mk c4 (Ld.mk c5 ?_))))))⟩
    refine (c_num _ _).mono ?_ ?_
    · rintro r w3 ⟨hr, e3⟩
      refine Nn.of ?_
      simp only [add_lit, Nat.zero_add]
      refine hb.done1 (set22 x r) (by decide) (dsh_22 x r) ?_ (H.ext.tr e3) fun w8 h8 => ⟨by trivial, h8⟩
      rw [q, chg_Tc, bnd_ok _ (show num (ob0 L) = _ from hr), er_22]
    · rintro v w3 ⟨e, he, rfl, e3⟩
      refine ⟨e, ?_, rfl, weak (H.ext.tr e3)⟩
      rw [q, chg_Tc, bnd_er _ (show num (ob0 L) = _ from he)]
  refine BrB (fun q => ?_) fun q => ?_
  · have q : bl a = [84, 119] := q
    have hl1 : L.length = 1 := by rw [q] at hlen; exact hlen.symm
    have hx := obx h (i := 0) (by omega)
    refine H.ld 0 rfl rfl ?_
    obtain ⟨ad, ha, c0, c1, c2, c3, c4, c5⟩ := (h.keep H.ext).get hx
    rw [ha]
    refine ⟨by omega, by omega, Nn.of (Ld.mk c0 (Ld.mk c1 (Ld.mk c2 (Ld.mk c3 (Ld.mk c4 (Ld.mk c5 ?_))))))⟩
    refine (c_num _ _).mono ?_ ?_
    · rintro r w3 ⟨hr, e3⟩
      refine Nn.of ?_
      simp only [add_lit, Nat.zero_add]
      refine hb.done1 (set23 x r) (by decide) (dsh_23 x r) ?_ (H.ext.tr e3) fun w8 h8 => ⟨by trivial, h8⟩
      rw [q, chg_Tw, bnd_ok _ (show num (ob0 L) = _ from hr), er_23]
    · rintro v w3 ⟨e, he, rfl, e3⟩
      refine ⟨e, ?_, rfl, weak (H.ext.tr e3)⟩
      rw [q, chg_Tw, bnd_er _ (show num (ob0 L) = _ from he)]
  refine BrB (fun q => ?_) fun q => ?_
  · have q : bl a = [84, 122] := q
    have hl1 : L.length = 1 := by rw [q] at hlen; exact hlen.symm
    have hx := obx h (i := 0) (by omega)
    refine H.ld 0 rfl rfl ?_
    obtain ⟨ad, ha, c0, c1, c2, c3, c4, c5⟩ := (h.keep H.ext).get hx
    rw [ha]
    refine ⟨by omega, by omega, Nn.of (Ld.mk c0 (Ld.mk c1 (Ld.mk c2 (Ld.mk c3 (Ld.mk c4 (Ld.mk c5 ?_))))))⟩
    refine (c_num _ _).mono ?_ ?_
    · rintro r w3 ⟨hr, e3⟩
      refine Nn.of ?_
      simp only [add_lit, Nat.zero_add]
      refine hb.done1 (set24 x r) (by decide) (dsh_24 x r) ?_ (H.ext.tr e3) fun w8 h8 => ⟨by trivial, h8⟩
      rw [q, chg_Tz, bnd_ok _ (show num (ob0 L) = _ from hr), er_24]
    · rintro v w3 ⟨e, he, rfl, e3⟩
      refine ⟨e, ?_, rfl, weak (H.ext.tr e3)⟩
      rw [q, chg_Tz, bnd_er _ (show num (ob0 L) = _ from he)]
  refine BrB (fun q => ?_) fun q => ?_
  · have q : bl a = [84, 76] := q
    have hl1 : L.length = 1 := by rw [q] at hlen; exact hlen.symm
    have hx := obx h (i := 0) (by omega)
    refine H.ld 0 rfl rfl ?_
    obtain ⟨ad, ha, c0, c1, c2, c3, c4, c5⟩ := (h.keep H.ext).get hx
    rw [ha]
    refine ⟨by omega, by omega, Nn.of (Ld.mk c0 (Ld.mk c1 (Ld.mk c2 (Ld.mk c3 (Ld.mk c4 (Ld.mk c5 ?_))))))⟩
    refine (c_num _ _).mono ?_ ?_
    · rintro r w3 ⟨hr, e3⟩
      refine Nn.of ?_
      simp only [add_lit, Nat.zero_add]
      refine hb.done1 (set25 x r) (by decide) (dsh_25 x r) ?_ (H.ext.tr e3) fun w8 h8 => ⟨by trivial, h8⟩
      rw [q, chg_TL, bnd_ok _ (show num (ob0 L) = _ from hr), er_25]
    · rintro v w3 ⟨e, he, rfl, e3⟩
      refine ⟨e, ?_, rfl, weak (H.ext.tr e3)⟩
      rw [q, chg_TL, bnd_er _ (show num (ob0 L) = _ from he)]
  refine BrB (fun q => ?_) fun q => ?_
  · have q : bl a = [84, 115] := q
    have hl1 : L.length = 1 := by rw [q] at hlen; exact hlen.symm
    have hx := obx h (i := 0) (by omega)
    refine H.ld 0 rfl rfl ?_
    obtain ⟨ad, ha, c0, c1, c2, c3, c4, c5⟩ := (h.keep H.ext).get hx
    rw [ha]
    refine ⟨by omega, by omega, Nn.of (Ld.mk c0 (Ld.mk c1 (Ld.mk c2 (Ld.mk c3 (Ld.mk c4 (Ld.mk c5 ?_))))))⟩
    refine (c_num _ _).mono ?_ ?_
    · rintro r w3 ⟨hr, e3⟩
      refine Nn.of ?_
      simp only [add_lit, Nat.zero_add]
      refine hb.done1 (set27 x r) (by decide) (dsh_27 x r) ?_ (H.ext.tr e3) fun w8 h8 => ⟨by trivial, h8⟩
      rw [q, chg_Ts, bnd_ok _ (show num (ob0 L) = _ from hr), er_27]
    · rintro v w3 ⟨e, he, rfl, e3⟩
      refine ⟨e, ?_, rfl, weak (H.ext.tr e3)⟩
      rw [q, chg_Ts, bnd_er _ (show num (ob0 L) = _ from he)]
  refine BrB (fun q => ?_) fun q => ?_
  · have q : bl a = [84, 102] := q
    have hl1 : L.length = 2 := by rw [q] at hlen; exact hlen.symm
    have hx := obx h (i := 1) (by omega)
    refine H.ld 0 rfl rfl ?_
    obtain ⟨ad, ha, c0, c1, c2, c3, c4, c5⟩ := (h.keep H.ext).get hx
    rw [ha]
    refine ⟨by omega, by omega, Nn.of (Ld.mk c0 (Ld.mk c1 (Ld.mk c2 (Ld.mk c3 (Ld.mk c4 (Ld.mk c5 ?_))))))⟩
    refine (c_num _ _).mono ?_ ?_
    · rintro r w3 ⟨hr, e3⟩
      have H := H.keep e3
      refine H.ld 0 rfl rfl ?_
      obtain ⟨ad2, ha2, c0, c1, c2, c3, c4, c5⟩ := (h.keep H.ext).get (obx h (i := 0) (by omega))
      rw [ha2]
      refine ⟨by omega, by omega, Nn.of (Ld.mk c3 (Nn.of ?_))⟩
      simp only [add_lit, Nat.zero_add]
      refine stB (H.ext.blk hb.blk id) (ltG x (by decide)) fun w5 g5 e5 => Nn.of ?_
      rw [set28] at g5
      simp only [add_lit, Nat.zero_add]
      refine stB g5 (ltG _ (by decide)) fun w6 g6 e6 => ?_
      rw [set26] at g6
      refine ⟨by trivial, hb.done (x' := up26 (up28 x (L.getD 0 Mat.ob0).2.2.2.1) r) ((dsh_26 _ _).trans (dsh_28 _ _)) ?_ g6 ((weak H.ext).tr (e5.tr e6))⟩
      rw [q, chg_Tf, bnd_ok _ (show num (ob1 L) = _ from hr), er_26, er_28]
      rfl
    · rintro v w3 ⟨e, he, rfl, e3⟩
      refine ⟨e, ?_, rfl, weak (H.ext.tr e3)⟩
      rw [q, chg_Tf, bnd_er _ (show num (ob1 L) = _ from he)]
  refine BrB (fun q => ?_) fun q => ?_
  · have q : bl a = [84, 114] := q
    have hl1 : L.length = 1 := by rw [q] at hlen; exact hlen.symm
    have hx := obx h (i := 0) (by omega)
    refine H.ld 0 rfl rfl ?_
    obtain ⟨ad, ha, c0, c1, c2, c3, c4, c5⟩ := (h.keep H.ext).get hx
    rw [ha]
    refine ⟨by omega, by omega, Nn.of (Ld.mk c0 (Ld.mk c1 (Ld.mk c2 (Ld.mk c3 (Ld.mk c4 (Ld.mk c5 ?_))))))⟩
    refine (c_whl _ 7 (by omega) _).mono ?_ ?_
    · rintro r w3 ⟨hr, e3⟩
      refine Nn.of ?_
      simp only [add_lit, Nat.zero_add]
      refine hb.done1 (set29 x r) (by decide) (dsh_29 x r) ?_ (H.ext.tr e3) fun w8 h8 => ⟨by trivial, h8⟩
      rw [q, chg_Tr, bnd_ok _ (show whl (ob0 L) 7 = _ from hr), er_29]
    · rintro v w3 ⟨e, he, rfl, e3⟩
      refine ⟨e, ?_, rfl, weak (H.ext.tr e3)⟩
      rw [q, chg_Tr, bnd_er _ (show whl (ob0 L) 7 = _ from he)]
  exfalso
  simp only [List.mem_cons, List.not_mem_nil, or_false] at hin
  rename_i q1 q2 q3 q4 q5 q6
  rcases hin with h | h | h | h | h | h | h <;> contradiction
end
end Ste
end Go.Proofs.YtjbeembbnkmpeaaDoor
