/- Graphics states: every operator, as the program changes them. Conditions: sizes; the operator has been checked. -/
import Derived.Test.YtjbeembbnkmpeaaDoorStE
namespace Go.Proofs.YtjbeembbnkmpeaaDoor
namespace Ste
open Sh Mat Opr
set_option linter.unusedVariables false
set_option linter.unusedSimpArgs false
set_option maxRecDepth 8000
set_option maxHeartbeats 8000000
attribute [local irreducible] Ld Sh.St Nw Nn Lt LdS LdT LdST StT
section
variable {w w' w1 w7 : World} {s : Slc} {l : List Int} {L K : List Ob} {b : Nat} {x x' : G} {D : List Int} {a d : ByteArray} {nm : By}
theorem c_chg (hb : SB w b x D) (h : OV w s L) (hck : chkF (bl a) L (bl d) = 0) (hK : OV w (ob0 L).2.2.2.2.2 K) (hKl : K.length ≤ 9223372036854775807) (hkn : bl a ∈ known) (hq1 : bl a ≠ [113]) (hq2 : bl a ≠ [81]) : C114 (some ⟨b, 0, none⟩) (a, s, d) w (fun r w1 => r = true ∧ ChgOk w w1 b x D (bl a) L K) fun v w1 => ChgEr w w1 b x D (bl a) L K v := by
  refine T114 _ (a, s, d) _ _ _ ?_
  unfold S114
  refine (Hn.start w).nw fun w2 H => ?_
  simp only [List.nil_append] at H
  have hlen := (chk0 hck).2.1
  have hLl := h.1
  iterate 1 refine H.ld 0 rfl rfl ?_
  refine BrB (fun q => ?_) fun q => ?_
  · have q : bl a = [99, 109] := q
    have hl1 : L.length = 6 := by rw [q] at hlen; exact hlen.symm
    iterate 3 refine H.ld 0 rfl rfl ?_
    have e2 := H.ext
    have hb2 : SB w2 b x D := ⟨e2.blk hb.blk id, hb.dash.keep e2, hb.ne⟩
    refine (c_turn (K := K) hb2 (h.keep e2) hl1 q).mono ?_ ?_
    · rintro w3 ⟨x', D', h1, h2, h3, h4, h5⟩
      exact ⟨rfl, x', D', h1, h2, h3, (weak e2).tr h4, fun j hj => (h5 j hj).imp id fun hh => by have := e2.size; omega⟩
    · rintro v w3 ⟨e, h1, rfl, h3⟩
      exact ⟨e, h1, rfl, (weak e2).tr h3⟩
  refine BrB (fun q => ?_) fun q => ?_
  · have q : bl a = [119] := q
    have hl1 : L.length = 1 := by rw [q] at hlen; exact hlen.symm
    have hx := obx h (i := 0) (by omega)
    refine H.ld 0 rfl rfl ?_
    obtain ⟨ad, ha, c0, c1, c2, c3, c4, c5⟩ := (h.keep H.ext).get hx
    rw [ha]
    refine ⟨by omega, by omega, Nn.of (Ld.mk c0 (Ld.mk c1 (Ld.mk c2 (Ld.mk c3 (Ld.mk c4 (Ld.mk c5 ?_))))))⟩
    refine (c_abv _ _).mono ?_ ?_
    · rintro r w3 ⟨hr, e3⟩
      refine Nn.of ?_
      simp only [add_lit, Nat.zero_add]
      refine hb.done1 (set6 x r) (by decide) (dsh_6 x r) ?_ (H.ext.tr e3) fun w8 h8 => ⟨by trivial, h8⟩
      rw [q, chg_w, bnd_ok _ (show abv (ob0 L) = _ from hr), er_6]
    · rintro v w3 ⟨e, he, rfl, e3⟩
      refine ⟨e, ?_, rfl, weak (H.ext.tr e3)⟩
      rw [q, chg_w, bnd_er _ (show abv (ob0 L) = _ from he)]
  refine BrB (fun q => ?_) fun q => ?_
  · have q : bl a = [77] := q
    have hl1 : L.length = 1 := by rw [q] at hlen; exact hlen.symm
    have hx := obx h (i := 0) (by omega)
    refine H.ld 0 rfl rfl ?_
    obtain ⟨ad, ha, c0, c1, c2, c3, c4, c5⟩ := (h.keep H.ext).get hx
    rw [ha]
    refine ⟨by omega, by omega, Nn.of (Ld.mk c0 (Ld.mk c1 (Ld.mk c2 (Ld.mk c3 (Ld.mk c4 (Ld.mk c5 ?_))))))⟩
    refine (c_abv _ _).mono ?_ ?_
    · rintro r w3 ⟨hr, e3⟩
      refine Nn.of ?_
      simp only [add_lit, Nat.zero_add]
      refine hb.done1 (set9 x r) (by decide) (dsh_9 x r) ?_ (H.ext.tr e3) fun w8 h8 => ⟨by trivial, h8⟩
      rw [q, chg_M, bnd_ok _ (show abv (ob0 L) = _ from hr), er_9]
    · rintro v w3 ⟨e, he, rfl, e3⟩
      refine ⟨e, ?_, rfl, weak (H.ext.tr e3)⟩
      rw [q, chg_M, bnd_er _ (show abv (ob0 L) = _ from he)]
  refine BrB (fun q => ?_) fun q => ?_
  · have q : bl a = [74] := q
    have hl1 : L.length = 1 := by rw [q] at hlen; exact hlen.symm
    have hx := obx h (i := 0) (by omega)
    refine H.ld 0 rfl rfl ?_
    obtain ⟨ad, ha, c0, c1, c2, c3, c4, c5⟩ := (h.keep H.ext).get hx
    rw [ha]
    refine ⟨by omega, by omega, Nn.of (Ld.mk c0 (Ld.mk c1 (Ld.mk c2 (Ld.mk c3 (Ld.mk c4 (Ld.mk c5 ?_))))))⟩
    refine (c_whl _ 2 (by omega) _).mono ?_ ?_
    · rintro r w3 ⟨hr, e3⟩
      refine Nn.of ?_
      simp only [add_lit, Nat.zero_add]
      refine hb.done1 (set7 x r) (by decide) (dsh_7 x r) ?_ (H.ext.tr e3) fun w8 h8 => ⟨by trivial, h8⟩
      rw [q, chg_J, bnd_ok _ (show whl (ob0 L) 2 = _ from hr), er_7]
    · rintro v w3 ⟨e, he, rfl, e3⟩
      refine ⟨e, ?_, rfl, weak (H.ext.tr e3)⟩
      rw [q, chg_J, bnd_er _ (show whl (ob0 L) 2 = _ from he)]
  refine BrB (fun q => ?_) fun q => ?_
  · have q : bl a = [106] := q
    have hl1 : L.length = 1 := by rw [q] at hlen; exact hlen.symm
    have hx := obx h (i := 0) (by omega)
    refine H.ld 0 rfl rfl ?_
    obtain ⟨ad, ha, c0, c1, c2, c3, c4, c5⟩ := (h.keep H.ext).get hx
    rw [ha]
    refine ⟨by omega, by omega, Nn.of (Ld.mk c0 (Ld.mk c1 (Ld.mk c2 (Ld.mk c3 (Ld.mk c4 (Ld.mk c5 ?_))))))⟩
    refine (c_whl _ 2 (by omega) _).mono ?_ ?_
    · rintro r w3 ⟨hr, e3⟩
      refine Nn.of ?_
      simp only [add_lit, Nat.zero_add]
      refine hb.done1 (set8 x r) (by decide) (dsh_8 x r) ?_ (H.ext.tr e3) fun w8 h8 => ⟨by trivial, h8⟩
      rw [q, chg_j, bnd_ok _ (show whl (ob0 L) 2 = _ from hr), er_8]
    · rintro v w3 ⟨e, he, rfl, e3⟩
      refine ⟨e, ?_, rfl, weak (H.ext.tr e3)⟩
      rw [q, chg_j, bnd_er _ (show whl (ob0 L) 2 = _ from he)]
  refine BrB (fun q => ?_) fun q => ?_
  · have q : bl a = [100] := q
    have hl1 : L.length = 2 := by rw [q] at hlen; exact hlen.symm
    iterate 3 refine H.ld 0 rfl rfl ?_
    have e2 := H.ext
    refine (c_dash (e2.blk hb.blk id) (h.keep e2) hl1 (hK.keep e2) hKl).mono ?_ ?_
    · rintro w3 ⟨r, h1, t, h2, h3, h4⟩
      refine ⟨by trivial, up10 (up11 x r.2) t, r.1, ?_, h2, h3.iv, (weak e2).tr h4, fun j hj => .inr ⟨by have := e2.size; have := h3.2 j hj; omega, h3.1.own_lt hj⟩⟩
      rw [q, chg_d, bnd_ok _ h1, er_10, er_11]
    · rintro v w3 ⟨e, h1, rfl, h3⟩
      refine ⟨e, ?_, rfl, (weak e2).tr h3⟩
      rw [q, chg_d, bnd_er _ h1]
  refine BrB (fun q => ?_) fun q => ?_
  · have q : bl a = [103] := q
    have hl1 : L.length = 1 := by rw [q] at hlen; exact hlen.symm
    iterate 3 refine H.ld 0 rfl rfl ?_
    have e2 := H.ext
    refine (c_col 0 (h.keep e2) (by omega)).mono ?_ ?_
    · rintro r w3 ⟨hr, e3⟩
      have E := e2.tr e3
      refine Nn.of ?_
      simp only [add_lit, Nat.zero_add]
      refine stB (E.blk hb.blk id) (show 12 < 30 by decide) fun _ g0 f0 => stB g0 (show 13 < 30 by decide) fun _ g1 f1 => stB g1 (show 14 < 30 by decide) fun _ g2 f2 => stB g2 (show 15 < 30 by decide) fun _ g3 f3 => stB g3 (show 16 < 30 by decide) fun _ g4 f4 => ?_
      have g4 := g4
      rw [setF x r] at g4
      refine ⟨by trivial, hb.done (x' := upF x r) (dsh_F x r) ?_ g4 ((weak E).tr (f0.tr (f1.tr (f2.tr (f3.tr f4)))))⟩
      rw [q, chg_g, bnd_ok _ hr, er_F]
    · rintro v w3 ⟨e, he, rfl, e3⟩
      refine ⟨e, ?_, rfl, weak (e2.tr e3)⟩
      rw [q, chg_g, bnd_er _ he]
  refine BrB (fun q => ?_) fun q => ?_
  · have q : bl a = [71] := q
    have hl1 : L.length = 1 := by rw [q] at hlen; exact hlen.symm
    iterate 3 refine H.ld 0 rfl rfl ?_
    have e2 := H.ext
    refine (c_col 0 (h.keep e2) (by omega)).mono ?_ ?_
    · rintro r w3 ⟨hr, e3⟩
      have E := e2.tr e3
      refine Nn.of ?_
      simp only [add_lit, Nat.zero_add]
      refine stB (E.blk hb.blk id) (show 17 < 30 by decide) fun _ g0 f0 => stB g0 (show 18 < 30 by decide) fun _ g1 f1 => stB g1 (show 19 < 30 by decide) fun _ g2 f2 => stB g2 (show 20 < 30 by decide) fun _ g3 f3 => stB g3 (show 21 < 30 by decide) fun _ g4 f4 => ?_
      have g4 := g4
      rw [setS x r] at g4
      refine ⟨by trivial, hb.done (x' := upS x r) (dsh_S x r) ?_ g4 ((weak E).tr (f0.tr (f1.tr (f2.tr (f3.tr f4)))))⟩
      rw [q, chg_G, bnd_ok _ hr, er_S]
    · rintro v w3 ⟨e, he, rfl, e3⟩
      refine ⟨e, ?_, rfl, weak (e2.tr e3)⟩
      rw [q, chg_G, bnd_er _ he]
  refine BrB (fun q => ?_) fun q => ?_
  · have q : bl a = [114, 103] := q
    have hl1 : L.length = 3 := by rw [q] at hlen; exact hlen.symm
    iterate 3 refine H.ld 0 rfl rfl ?_
    have e2 := H.ext
    refine (c_col 1 (h.keep e2) (by omega)).mono ?_ ?_
    · rintro r w3 ⟨hr, e3⟩
      have E := e2.tr e3
      refine Nn.of ?_
      simp only [add_lit, Nat.zero_add]
      refine stB (E.blk hb.blk id) (show 12 < 30 by decide) fun _ g0 f0 => stB g0 (show 13 < 30 by decide) fun _ g1 f1 => stB g1 (show 14 < 30 by decide) fun _ g2 f2 => stB g2 (show 15 < 30 by decide) fun _ g3 f3 => stB g3 (show 16 < 30 by decide) fun _ g4 f4 => ?_
      have g4 := g4
      rw [setF x r] at g4
      refine ⟨by trivial, hb.done (x' := upF x r) (dsh_F x r) ?_ g4 ((weak E).tr (f0.tr (f1.tr (f2.tr (f3.tr f4)))))⟩
      rw [q, chg_rg, bnd_ok _ hr, er_F]
    · rintro v w3 ⟨e, he, rfl, e3⟩
      refine ⟨e, ?_, rfl, weak (e2.tr e3)⟩
      rw [q, chg_rg, bnd_er _ he]
  refine BrB (fun q => ?_) fun q => ?_
  · have q : bl a = [82, 71] := q
    have hl1 : L.length = 3 := by rw [q] at hlen; exact hlen.symm
    iterate 3 refine H.ld 0 rfl rfl ?_
    have e2 := H.ext
    refine (c_col 1 (h.keep e2) (by omega)).mono ?_ ?_
    · rintro r w3 ⟨hr, e3⟩
      have E := e2.tr e3
      refine Nn.of ?_
      simp only [add_lit, Nat.zero_add]
      refine stB (E.blk hb.blk id) (show 17 < 30 by decide) fun _ g0 f0 => stB g0 (show 18 < 30 by decide) fun _ g1 f1 => stB g1 (show 19 < 30 by decide) fun _ g2 f2 => stB g2 (show 20 < 30 by decide) fun _ g3 f3 => stB g3 (show 21 < 30 by decide) fun _ g4 f4 => ?_
      have g4 := g4
      rw [setS x r] at g4
      refine ⟨by trivial, hb.done (x' := upS x r) (dsh_S x r) ?_ g4 ((weak E).tr (f0.tr (f1.tr (f2.tr (f3.tr f4)))))⟩
      rw [q, chg_RG, bnd_ok _ hr, er_S]
    · rintro v w3 ⟨e, he, rfl, e3⟩
      refine ⟨e, ?_, rfl, weak (e2.tr e3)⟩
      rw [q, chg_RG, bnd_er _ he]
  refine BrB (fun q => ?_) fun q => ?_
  · have q : bl a = [107] := q
    have hl1 : L.length = 4 := by rw [q] at hlen; exact hlen.symm
    iterate 3 refine H.ld 0 rfl rfl ?_
    have e2 := H.ext
    refine (c_col 2 (h.keep e2) (by omega)).mono ?_ ?_
    · rintro r w3 ⟨hr, e3⟩
      have E := e2.tr e3
      refine Nn.of ?_
      simp only [add_lit, Nat.zero_add]
      refine stB (E.blk hb.blk id) (show 12 < 30 by decide) fun _ g0 f0 => stB g0 (show 13 < 30 by decide) fun _ g1 f1 => stB g1 (show 14 < 30 by decide) fun _ g2 f2 => stB g2 (show 15 < 30 by decide) fun _ g3 f3 => stB g3 (show 16 < 30 by decide) fun _ g4 f4 => ?_
      have g4 := g4
      rw [setF x r] at g4
      refine ⟨by trivial, hb.done (x' := upF x r) (dsh_F x r) ?_ g4 ((weak E).tr (f0.tr (f1.tr (f2.tr (f3.tr f4)))))⟩
      rw [q, chg_k, bnd_ok _ hr, er_F]
    · rintro v w3 ⟨e, he, rfl, e3⟩
      refine ⟨e, ?_, rfl, weak (e2.tr e3)⟩
      rw [q, chg_k, bnd_er _ he]
  refine BrB (fun q => ?_) fun q => ?_
  · have q : bl a = [75] := q
    have hl1 : L.length = 4 := by rw [q] at hlen; exact hlen.symm
    iterate 3 refine H.ld 0 rfl rfl ?_
    have e2 := H.ext
    refine (c_col 2 (h.keep e2) (by omega)).mono ?_ ?_
    · rintro r w3 ⟨hr, e3⟩
      have E := e2.tr e3
      refine Nn.of ?_
      simp only [add_lit, Nat.zero_add]
      refine stB (E.blk hb.blk id) (show 17 < 30 by decide) fun _ g0 f0 => stB g0 (show 18 < 30 by decide) fun _ g1 f1 => stB g1 (show 19 < 30 by decide) fun _ g2 f2 => stB g2 (show 20 < 30 by decide) fun _ g3 f3 => stB g3 (show 21 < 30 by decide) fun _ g4 f4 => ?_
      have g4 := g4
      rw [setS x r] at g4
      refine ⟨by trivial, hb.done (x' := upS x r) (dsh_S x r) ?_ g4 ((weak E).tr (f0.tr (f1.tr (f2.tr (f3.tr f4)))))⟩
      rw [q, chg_K, bnd_ok _ hr, er_S]
    · rintro v w3 ⟨e, he, rfl, e3⟩
      refine ⟨e, ?_, rfl, weak (e2.tr e3)⟩
      rw [q, chg_K, bnd_er _ he]
  have same : chgF (bl a) L K (er x, D) = .ok (er x, D) → ChgOk w w2 b x D (bl a) L K := fun hc => hb.done rfl hc (H.ext.blk hb.blk id) (weak H.ext)
  refine BrB (fun q => ⟨rfl, same (by rw [show bl a = [105] from q]; rfl)⟩) fun q => ?_
  have tx : bl a ∈ ([[84, 99], [84, 119], [84, 122], [84, 76], [84, 115], [84, 102], [84, 114]] : List By) → bl a ≠ [114, 105] → True := fun _ _ => trivial
  refine BrB (fun q => BrB (fun q => ⟨rfl, same (by rw [show bl a = [114, 105] from q]; rfl)⟩) fun q2 => absurd q q2) fun q => BrB (fun q => ⟨rfl, same (by rw [show bl a = [103, 115] from q]; rfl)⟩) fun q2 => ?_
  refine Nn.of ?_
  have H := H.drew
  iterate 3 refine H.ld 0 rfl rfl ?_
  have e2 := H.ext
  have hb2 : SB w2.drew b x D := ⟨e2.blk hb.blk id, hb.dash.keep e2, hb.ne⟩
  simp only [add_lit, Nat.zero_add]
  refine (c_text (K := K) hb2 (h.keep e2) hck ?_).mono ?_ ?_
  · unfold known at hkn
    simp only [List.mem_cons, List.not_mem_nil, or_false] at hkn ⊢
    rcases hkn with hh | hh | hh | hh | hh | hh | hh | hh | hh | hh | hh | hh | hh | hh | hh | hh | hh | hh | hh | hh | hh | hh | hh | hh <;> first
      | contradiction
      | exact .inl hh
      | exact .inr (.inl hh)
      | exact .inr (.inr (.inl hh))
      | exact .inr (.inr (.inr (.inl hh)))
      | exact .inr (.inr (.inr (.inr (.inl hh))))
      | exact .inr (.inr (.inr (.inr (.inr (.inl hh)))))
      | exact .inr (.inr (.inr (.inr (.inr (.inr hh)))))
  · rintro r w3 ⟨rfl, x', D', h1, h2, h3, h4, h5⟩
    exact ⟨rfl, x', D', h1, h2, h3, (weak e2).tr h4, fun j hj => (h5 j hj).imp id fun hh => by have := e2.size; omega⟩
  · rintro v w3 ⟨e, h1, rfl, h3⟩
    exact ⟨e, h1, rfl, (weak e2).tr h3⟩
end
end Ste
end Go.Proofs.YtjbeembbnkmpeaaDoor
