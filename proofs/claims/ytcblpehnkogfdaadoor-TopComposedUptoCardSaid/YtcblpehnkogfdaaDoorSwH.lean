/- Shown strings: the law on composed strings. Conditions: sizes, the laid tables. -/
import Derived.Test.YtcblpehnkogfdaaDoorSwG
namespace Go.Proofs.YtcblpehnkogfdaaDoor
namespace Sw
open Sh Mat Fix Fo
set_option linter.unusedVariables false
set_option linter.unusedSimpArgs false
set_option maxRecDepth 4000
set_option maxHeartbeats 4000000
attribute [local irreducible] Ld St Nw Nn Lt LdS
section
variable {w vw6 vw7 vw98 vw109 : World} {r95 r107 : Slc} {g : GT} {x : FT} {f : Font} {m m' : Mx} {s : ByteArray} {cut : Int} {L : List GlT} {cs : List Int}
/-- Glyph after glyph. -/
theorem w_L2 (hT : TB w) (h : FoV w x f) (hs : s.size ≤ 1048576) (H9 : Hn w vw109 [(w.heap.size, grl g, TG), (vw6.heap.size, mrow m, TM), (vw7.heap.size, fol x, TF), (vw98.heap.size, mrow m', TM)])
    (hr : VRow vw109 r95 9 (L.flatMap glc)) (hc : VRow vw109 r107 1 (cs.flatMap icell)) (hsF : stringF g m f s = (L, m', 0)) (hcs : (codesF f.wide s).1 = cs) {w1 : World} (K0 : Hn vw109 w1 [(vw109.heap.size, mrow m, TM)]) :
    Lp (σ := Int) (S3L2 w s cut vw6 vw7 r95 vw98 r107 vw109 (fun r w1 => r = true ∧ Ext (fun _ => False) w w1)) 0 w1 := by
  obtain ⟨hask, hshow⟩ := string_yes hsF
  obtain ⟨hg, hm, hk, he, hcl⟩ := ask_parts hask
  rw [hcs] at hshow hcl
  have hin := codes_in f.wide s
  rw [hcs] at hin
  have hll := showP_len cs hshow
  have n1 := VRow.count glc_len (by decide) hr
  have n2 := VRow.count icell_len (by decide) hc
  refine ⟨fun n st w2 => ∃ (i : Nat) (mi : Mx), st = (i : Int) ∧ i ≤ cs.length ∧ n = cs.length - i ∧ showP g f (cs.drop i) mi = some (L.drop i, m') ∧ Hn vw109 w2 [(vw109.heap.size, mrow mi, TM)], cs.length, ⟨0, m, rfl, Nat.zero_le _, rfl, hshow, K0⟩, ?_⟩
  rintro n st w2 ⟨i, mi, rfl, hi, rfl, hsh, K⟩
  unfold S3L2
  dsimp only
  rw [n2]
  have HG := H9.keep K.ext
  refine Br.dec (fun q => ⟨by omega, by omega, ?_⟩) fun q => ?_
  · have hil : i < cs.length := by omega
    have hiL : i < L.length := by omega
    obtain ⟨a, ha, hcell⟩ := VRow.elem icell_len (hc.keep K.ext) (List.getElem?_eq_getElem hil) (by decide)
    rw [ha]
    refine Nn.of (Ld.mk (x := cs[i]) (by have := hcell 0 _ rfl; simpa using this) ?_)
    refine K.ld 0 rfl (x := mi.1) rfl (K.ld 0 rfl (x := mi.2.1) rfl (K.ld 0 rfl (x := mi.2.2.1) rfl (K.ld 0 rfl (x := mi.2.2.2.1) rfl (K.ld 0 rfl (x := mi.2.2.2.2.1) rfl (K.ld 0 rfl (x := mi.2.2.2.2.2) rfl ?_)))))
    refine HG.ld 0 rfl (x := g.1) rfl (HG.ld 0 rfl (x := g.2.1) rfl (HG.ld 0 rfl (x := g.2.2.1) rfl (HG.ld 0 rfl (x := g.2.2.2.1) rfl (HG.ld 0 rfl (x := g.2.2.2.2.1) rfl (HG.ld 0 rfl (x := g.2.2.2.2.2.1) rfl ?_)))))
    have hdr : cs.drop i = cs[i] :: cs.drop (i + 1) := List.drop_eq_getElem_cons hil
    have hdL : L.drop i = L[i] :: L.drop (i + 1) := List.drop_eq_getElem_cons hiL
    rw [hdr, hdL] at hsh
    unfold showP at hsh
    obtain ⟨⟨gl, mn⟩, hsg, hsh⟩ := Option.bind_eq_some_iff.1 hsh
    obtain ⟨⟨Lr, me⟩, hsr, hsh⟩ := Option.bind_eq_some_iff.1 hsh
    obtain ⟨all, pt, stp, f1, f2, f3, f4, f5, f6, f7, f8, f9⟩ := sign_facts hsg
    have hcons := Prod.mk.inj (Option.some.inj hsh)
    obtain ⟨hgl, hLr⟩ := List.cons.inj hcons.1
    have hme : me = m' := hcons.2
    have hgl : gl = L[i] := hgl
    have hLr : Lr = L.drop (i + 1) := hLr
    rw [hgl] at f5 f6 f7 f8 f9
    rw [hLr, hme] at hsr
    have hci := hin _ (List.getElem_mem hil)
    refine (Mat.c_mul mi (ctm g) _).mono ?_
    rintro all' e3 w3 ⟨h3, e3'⟩
    rw [f1] at h3
    obtain ⟨rfl, rfl⟩ := Prod.mk.inj h3
    refine mk_mx w3 all' fun w4 e4 hb4 => ?_
    have E4 := e3'.tr e4
    refine Ld.of hb4 (x := all'.1) rfl (Ld.of hb4 (x := all'.2.1) rfl (Ld.of hb4 (x := all'.2.2.1) rfl (Ld.of hb4 (x := all'.2.2.2.1) rfl (Ld.of hb4 (x := all'.2.2.2.2.1) rfl (Ld.of hb4 (x := all'.2.2.2.2.2) rfl ?_)))))
    have HG4 := HG.keep E4
    refine HG4.ld 0 rfl (x := trise g) rfl ?_
    refine (c_apply all' (0, trise g) _).mono ?_
    rintro pt' e5 w5 ⟨h5, e5'⟩
    rw [f2] at h5
    obtain ⟨rfl, rfl⟩ := Prod.mk.inj h5
    refine (Hn.start w5).nw fun w6 H => ?_
    simp only [List.nil_append, List.cons_append, List.set_cons_zero, List.set_cons_succ, Nat.zero_add] at H
    iterate 2 (refine H.st 0 rfl (by simp) fun _ H => ?_; simp only [List.nil_append, List.cons_append, List.set_cons_zero, List.set_cons_succ, Nat.zero_add] at H)
    rename_i wq
    have E6 := (E4.tr e5').tr H.ext
    have hbP := H.get 0 rfl
    have HG6 := HG.keep E6
    refine HG6.ldT (i := 0) (ts := LiA29) (pre := []) (post := []) (x := g) rfl rfl ?_
    refine HG6.ldT (i := 2) (ts := LiA33) (pre := []) (post := []) (x := x) rfl rfl ?_
    refine (c_stepW (g := g) (hT.keep HG6.ext) (h.keep HG6.ext) (code := cs[i]) (by unfold I64; omega)).mono ?_
    rintro st7 e7 w7 ⟨h7, e7'⟩
    have hst : stepF g f cs[i] = (stp, 0) := by
      unfold stepF
      rw [if_neg (by simp [hg]), if_neg (by simp [hk]), f3]
      rfl
    rw [hst] at h7
    obtain ⟨rfl, rfl⟩ := Prod.mk.inj h7
    have ED := (E6.tr e7').drew
    have KD := K.keep ED
    have hbPD := (Ext.drew e7').blk hbP id
    refine ⟨fun sj wj => ∃ bb, sj = (⟨bb, 0, none⟩, 0) ∧ Ext (fun _ => False) w7.drew wj ∧ Blk wj bb (mrow mn).toArray TM, ?_, ?_⟩
    · rintro _ wj ⟨bb, rfl, ej, hbb⟩
      have EJ := (ED.tr ej).drew
      have KJ := K.keep EJ
      have HJ := HG.keep EJ
      have hbPJ : Blk wj.drew w5.heap.size #[.int .i64 pt'.1, .int .i64 pt'.2] 43 := (Ext.drew ej).blk hbPD id
      have hbJ : Blk wj.drew bb _ _ := hbb.drew
      unfold S3J1
      dsimp only
      rw [n1]
      obtain ⟨a2, ha2, hac⟩ := ld_glyph (hr.keep KJ.ext) hiL
      rw [ha2, Int.toNat_natCast]
      refine ⟨Ext (fun _ => False) wj.drew, Ext.refl _ _, ?_⟩
      refine Br.ne (fun h0 => absurd rfl h0) fun _ => Br.ne (fun h0 => absurd rfl h0) fun _ => Br.ne (fun h0 => absurd rfl h0) fun _ => Br.ne (fun h0 => absurd rfl h0) fun _ => ⟨by omega, by omega, Nn.of ?_⟩
      refine ldS_ext (x := L[i].2.2.1) (hac 2 _ rfl) (ldS_ext (x := L[i].2.2.2.1) (by rw [add_add']; exact hac 3 _ rfl) ?_)
      refine ldS_ext (x := pt'.1) (by rw [hbPJ.cell]; rfl) (ldS_ext (x := pt'.2) (hbPJ.cell 1) ?_)
      refine Br.f (by rw [f7, f8]; simp) ⟨by omega, by omega, Nn.of ?_⟩
      refine ldS_ext (x := L[i].2.1) (hac 1 _ rfl) ?_
      refine LdST.blk (ts := LiA33) (pre := []) (post := []) (t := TF) (x := x) (fun w' hw => hw.blk (HJ.get 2 rfl) id) rfl ?_
      refine (c_say (hT.keep HJ.ext) (h.keep HJ.ext) cs[i]).mono ?_
      rintro r8 w8 ⟨rfl, e8⟩
      refine ⟨e8, Br.f (by rw [f6]; simp) ⟨by omega, by omega, Nn.of ?_⟩⟩
      refine ldS_ext (x := L[i].1) (by have := hac 0 _ rfl; rw [add_add'] at this; exact this) ?_
      refine Br.ne (fun h0 => absurd f5 h0) fun _ => ⟨by omega, by omega, Nn.of ?_⟩
      refine ldS_ext (x := L[i].2.2.2.2.2.2.2.1) (hac 7 _ rfl) ?_
      refine ldS_ext (x := tfont g) ((HJ.get 0 rfl).cell 28) ?_
      refine Br.f (by rw [f9]; simp) ?_
      have hb8 := e8.blk hbJ id
      refine Ld.of hb8 (x := mn.1) rfl (Ld.of hb8 (x := mn.2.1) rfl (Ld.of hb8 (x := mn.2.2.1) rfl (Ld.of hb8 (x := mn.2.2.2.1) rfl (Ld.of hb8 (x := mn.2.2.2.2.1) rfl (Ld.of hb8 (x := mn.2.2.2.2.2) rfl ?_)))))
      have H := KJ.keep e8
      iterate 6 (refine H.st 0 rfl (by simp) fun _ H => ?_; simp only [List.nil_append, List.cons_append, List.set_cons_zero, List.set_cons_succ, Nat.zero_add] at H)
      exact ⟨cs.length - (i + 1), by omega, i + 1, mn, by rw [i64_id (by omega)]; rfl, by omega, rfl, hsr, H⟩
    have cl : ∀ {j : Nat} {v : Value}, (mrow mi)[j]? = some v → w7.drew.cell? ⟨vw109.heap.size, j, none⟩ = some v := fun {j v} hj => by
      rw [(KD.get 0 rfl).cell, List.getElem?_toArray]
      exact hj
    refine ⟨Ext (fun _ => False) w7.drew, Ext.refl _ _, ?_⟩
    refine ldS_ext (x := mi.1) (cl rfl) (ldS_ext (x := mi.2.1) (cl rfl) (ldS_ext (x := mi.2.2.1) (cl rfl) (ldS_ext (x := mi.2.2.2.1) (cl rfl) (ldS_ext (x := mi.2.2.2.2.1) (cl rfl) (ldS_ext (x := mi.2.2.2.2.2) (cl rfl) ?_)))))
    refine ⟨(c_move _ 0 _).mono ?_, (Hn.start w7.drew).nw fun w8 Q => ⟨Q.ext, (c_move _ 0 _).mono ?_⟩⟩
    · rintro mv w8 ⟨rfl, e8⟩
      refine ⟨e8, (Mat.c_mul _ mi _).mono ?_, (Hn.start w8).nw fun w9 Q => ⟨e8.tr Q.ext, (Mat.c_mul _ mi _).mono ?_⟩⟩
      · rintro nx e9 w9 ⟨h9, e9'⟩
        rw [f4] at h9
        obtain ⟨rfl, rfl⟩ := Prod.mk.inj h9
        exact mk_mx w9 nx fun w10 e10 hb10 => ⟨_, rfl, (e8.tr e9').tr e10, hb10⟩
      · rintro nx e9 w10 ⟨h9, e9'⟩
        rw [f4] at h9
        obtain ⟨rfl, rfl⟩ := Prod.mk.inj h9
        have Q2 := Q.keep e9'
        exact st_mx (m := noM) (Q2.get 0 rfl) nx fun w11 e11 hb11 => ⟨_, rfl, e8.tr (ext_new Q2.ext e11 fun j hj => Nat.le_of_eq hj.symm), hb11⟩
    · rintro mv w9 ⟨rfl, e9⟩
      refine ⟨Q.ext.tr e9, (Mat.c_mul _ mi _).mono ?_⟩
      rintro nx e10 w10 ⟨h10, e10'⟩
      rw [f4] at h10
      obtain ⟨rfl, rfl⟩ := Prod.mk.inj h10
      have Q2 := (Q.keep e9).keep e10'
      exact st_mx (m := noM) (Q2.get 0 rfl) nx fun w11 e11 hb11 => ⟨_, rfl, ext_new Q2.ext e11 fun j hj => Nat.le_of_eq hj.symm, hb11⟩
  · have : i = cs.length := by omega
    subst this
    rw [List.drop_length] at hsh
    have hmi : mi = m' := (Prod.mk.inj (Option.some.inj hsh)).2
    subst hmi
    refine K.ld 0 rfl (x := mi.1) rfl (K.ld 0 rfl (x := mi.2.1) rfl (K.ld 0 rfl (x := mi.2.2.1) rfl (K.ld 0 rfl (x := mi.2.2.2.1) rfl (K.ld 0 rfl (x := mi.2.2.2.2.1) rfl (K.ld 0 rfl (x := mi.2.2.2.2.2) rfl ?_)))))
    refine HG.ld 3 rfl (x := mi.1) rfl (HG.ld 3 rfl (x := mi.2.1) rfl (HG.ld 3 rfl (x := mi.2.2.1) rfl (HG.ld 3 rfl (x := mi.2.2.2.1) rfl (HG.ld 3 rfl (x := mi.2.2.2.2.1) rfl (HG.ld 3 rfl (x := mi.2.2.2.2.2) rfl ?_)))))
    refine Lt.of (Br.f (by simp) ?_)
    refine ⟨fun _ w' => w' = w2 ∧ 0 ≤ cut ∧ cut ≤ (s.size : Int) ∧ (f.wide = true → cut.toNat % 2 = 0), ?_, ?_⟩
    · rintro _ w' ⟨rfl, hc0, hc1, hcw⟩
      obtain ⟨k, rfl⟩ := Int.eq_ofNat_of_zero_le hc0
      exact w_J4 hT h hs (by omega) (by simpa using hcw) HG (hr.keep K.ext) (by omega) hsF
    refine Br.dec (fun _ => ⟨rfl, HG.ext⟩) fun c0 => Br.dec (fun _ => ⟨rfl, HG.ext⟩) fun c1 => ?_
    refine HG.ld 2 rfl (x := x.2.1) rfl ?_
    rw [h.wide]
    cases hw : f.wide with
    | false => exact Br.f rfl ⟨rfl, by omega, by omega, fun h => by cases h⟩
    | true =>
      refine Br.t rfl (Br.ne (fun _ => ⟨rfl, HG.ext⟩) fun h2 => ⟨rfl, by omega, by omega, fun _ => ?_⟩)
      rw [tmod_id (by omega)] at h2
      omega
end
end Sw
end Go.Proofs.YtcblpehnkogfdaaDoor
