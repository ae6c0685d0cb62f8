/- Graphics states: the matrix, as the program changes them. Conditions: sizes; the operator has been checked. -/
import Derived.Test.YtjbeembbnkmpeaaDoorStC
namespace Go.Proofs.YtjbeembbnkmpeaaDoor
namespace Ste
open Sh Mat Opr
set_option linter.unusedVariables false
set_option linter.unusedSimpArgs false
set_option maxRecDepth 8000
set_option maxHeartbeats 8000000
theorem chg_w (L K : List Ob) (p : P) : chgF [119] L K p = bnd (abv (ob0 L)) fun n => .ok (up6 p.1 n, p.2) := rfl
theorem chg_M (L K : List Ob) (p : P) : chgF [77] L K p = bnd (abv (ob0 L)) fun n => .ok (up9 p.1 n, p.2) := rfl
theorem chg_J (L K : List Ob) (p : P) : chgF [74] L K p = bnd (whl (ob0 L) 2) fun n => .ok (up7 p.1 n, p.2) := rfl
theorem chg_j (L K : List Ob) (p : P) : chgF [106] L K p = bnd (whl (ob0 L) 2) fun n => .ok (up8 p.1 n, p.2) := rfl
theorem chg_Tc (L K : List Ob) (p : P) : chgF [84, 99] L K p = bnd (num (ob0 L)) fun n => .ok (up22 p.1 n, p.2) := rfl
theorem chg_Tw (L K : List Ob) (p : P) : chgF [84, 119] L K p = bnd (num (ob0 L)) fun n => .ok (up23 p.1 n, p.2) := rfl
theorem chg_Tz (L K : List Ob) (p : P) : chgF [84, 122] L K p = bnd (num (ob0 L)) fun n => .ok (up24 p.1 n, p.2) := rfl
theorem chg_TL (L K : List Ob) (p : P) : chgF [84, 76] L K p = bnd (num (ob0 L)) fun n => .ok (up25 p.1 n, p.2) := rfl
theorem chg_Ts (L K : List Ob) (p : P) : chgF [84, 115] L K p = bnd (num (ob0 L)) fun n => .ok (up27 p.1 n, p.2) := rfl
theorem chg_Tr (L K : List Ob) (p : P) : chgF [84, 114] L K p = bnd (whl (ob0 L) 7) fun n => .ok (up29 p.1 n, p.2) := rfl
theorem chg_g (L K : List Ob) (p : P) : chgF [103] L K p = bnd (col 0 L) fun c => .ok (upF p.1 c, p.2) := rfl
theorem chg_G (L K : List Ob) (p : P) : chgF [71] L K p = bnd (col 0 L) fun c => .ok (upS p.1 c, p.2) := rfl
theorem chg_rg (L K : List Ob) (p : P) : chgF [114, 103] L K p = bnd (col 1 L) fun c => .ok (upF p.1 c, p.2) := rfl
theorem chg_RG (L K : List Ob) (p : P) : chgF [82, 71] L K p = bnd (col 1 L) fun c => .ok (upS p.1 c, p.2) := rfl
theorem chg_k (L K : List Ob) (p : P) : chgF [107] L K p = bnd (col 2 L) fun c => .ok (upF p.1 c, p.2) := rfl
theorem chg_K (L K : List Ob) (p : P) : chgF [75] L K p = bnd (col 2 L) fun c => .ok (upS p.1 c, p.2) := rfl
theorem chg_i (L K : List Ob) (p : P) : chgF [105] L K p = .ok p := rfl
theorem chg_ri (L K : List Ob) (p : P) : chgF [114, 105] L K p = .ok p := rfl
theorem chg_gs (L K : List Ob) (p : P) : chgF [103, 115] L K p = .ok p := rfl
theorem chg_cm (L K : List Ob) (p : P) : chgF [99, 109] L K p = bnd (nums L) (turnF p) := rfl
theorem chg_d (L K : List Ob) (p : P) : chgF [100] L K p = bnd (dshF K (ob1 L)) fun x => .ok (up11 p.1 x.2, x.1) := rfl
theorem chg_Tf (L K : List Ob) (p : P) : chgF [84, 102] L K p = bnd (num (ob1 L)) fun n => .ok (up26 (up28 p.1 (ob0 L).2.2.2.1) n, p.2) := rfl
theorem chk0 {nm dd : By} {L : List Ob} (h : chkF nm L dd = 0) : takes nm ≠ [63] ∧ (takes nm).length = L.length ∧ fitsT (takes nm) L = true := by
  unfold chkF at h
  split at h
  · cases h
  · rename_i h1
    split at h
    · cases h
    · rename_i h2
      split at h
      · cases h
      · rename_i h3
        exact ⟨h1, Decidable.not_not.1 h2, by simpa using h3⟩
attribute [local irreducible] Ld Sh.St Nw Nn Lt LdS LdT LdST StT
section
variable {w w' w1 w7 : World} {s : Slc} {l : List Int} {L K : List Ob} {b : Nat} {x x' : G} {D : List Int} {a d : ByteArray} {nm : By}
/-- A state has been changed as the operator says. -/
def ChgOk (w w1 : World) (b : Nat) (x : G) (D : List Int) (nm : By) (L K : List Ob) : Prop := ∃ (x' : G) (D' : List Int), chgF nm L K (er x, D) = .ok (er x', D') ∧ Blk w1 b (Sig.cells LG x').toArray 30 ∧ IV w1 (dsh x') D' ∧ Ext (· = b) w w1 ∧ ∀ j, (dsh x').own j → (dsh x).own j ∨ (w.heap.size ≤ j ∧ j < w1.heap.size)
def ChgEr (w w1 : World) (b : Nat) (x : G) (D : List Int) (nm : By) (L K : List Ob) (v : Value) : Prop := ∃ e, chgF nm L K (er x, D) = .error e ∧ v = stp e ∧ Ext (· = b) w w1
theorem weak (h : Ext (fun _ => False) w w1) : Ext (· = b) w w1 := h.mono fun _ _ e => e.elim
/-- The state is in its block. -/
structure SB (w : World) (b : Nat) (x : G) (D : List Int) : Prop where
  blk : Blk w b (Sig.cells LG x).toArray 30
  dash : IV w (dsh x) D
  ne : ∀ j, (dsh x).own j → j ≠ b
theorem SB.done (h : SB w b x D) (hd : dsh x' = dsh x) (hc : chgF nm L K (er x, D) = .ok (er x', D)) (hb : Blk w7 b (Sig.cells LG x').toArray 30) (E : Ext (· = b) w w7) : ChgOk w w7 b x D nm L K :=
  ⟨x', D, hc, hb, by rw [hd]; exact h.dash.keepF E h.ne, E, fun j hj => .inl (by rw [← hd]; exact hj)⟩
theorem SB.done1 {i : Nat} {v : Value} {R : World → Prop} (h : SB w b x D) (hs : (Sig.cells LG x).set i v = Sig.cells LG x') (hi : i < 30) (hd : dsh x' = dsh x) (hc : chgF nm L K (er x, D) = .ok (er x', D)) (E : Ext (fun _ => False) w w7) (k : ∀ w8, ChgOk w w8 b x D nm L K → R w8) : Sh.St w7 ⟨b, i, none⟩ v R := by
  refine stB (E.blk h.blk id) (ltG x hi) fun w8 hb8 e8 => k w8 ?_
  rw [hs] at hb8
  exact h.done hd hc hb8 ((weak E).tr e8)
theorem obx (h : OV w s L) {i : Nat} (hi : i < L.length) : L[i]? = some (L.getD i Mat.ob0) := by
  rw [List.getD_eq_getElem?_getD, List.getElem?_eq_getElem hi]
  rfl
theorem c_turn (hb : SB w b x D) (h : OV w s L) (hL : L.length = 6) (hn : bl a = [99, 109]) : C164 (some ⟨b, 0, none⟩) (a, s, d) w (fun w1 => ChgOk w w1 b x D (bl a) L K) fun v w1 => ChgEr w w1 b x D (bl a) L K v := by
  refine T164 _ (a, s, d) _ _ _ ?_
  unfold S164
  refine (Hn.start w).nw fun w2 H => ?_
  simp only [List.nil_append] at H
  iterate 3 refine H.ld 0 rfl rfl ?_
  refine (c_nums (h.keep H.ext) (by omega)).mono ?_ ?_
  rotate_left
  · rintro v w3 ⟨e, he, rfl, e3⟩
    exact ⟨e, by rw [hn, chg_cm]; unfold bnd; rw [he], rfl, weak (H.ext.tr e3)⟩
  rintro r w3 ⟨l, hnl, ho, hll, e3⟩
  have E3 : Ext (fun _ => False) w w3.drew := (H.ext.tr e3).drew
  have hv : IV w3.drew r l := ho.iv.keep (Ext.refl _ w3).drew
  have hb3 := E3.blk hb.blk id
  have hlt := hb3.lt
  clear H
  refine ⟨fun w' => IV w' r l, hv, ?_⟩
  refine ldS_iv hv (fun _ h => h) (i := 0) (by omega) rfl ?_
  refine ldS_iv hv (fun _ h => h) (i := 1) (by omega) rfl ?_
  refine ldS_iv hv (fun _ h => h) (i := 2) (by omega) rfl ?_
  refine ldS_iv hv (fun _ h => h) (i := 3) (by omega) rfl ?_
  refine ldS_iv hv (fun _ h => h) (i := 4) (by omega) rfl ?_
  refine ldS_iv hv (fun _ h => h) (i := 5) (by omega) rfl ?_
  refine ⟨?_, ?_⟩
  · skip
    refine (Hn.start w3.drew).nw fun w4 H => ?_
    simp only [List.nil_append] at H
    iterate 6 (refine H.st 0 rfl (by simp) fun _ H => ?_; simp only [List.set_cons_zero, List.set_cons_succ] at H)
    have H := H.drew
    have hb4 := H.ext.blk hb3 id
    refine ⟨fun w' => Blk w' w3.drew.heap.size #[.int .i64 (l.getD 0 0), .int .i64 (l.getD 1 0), .int .i64 (l.getD 2 0), .int .i64 (l.getD 3 0), .int .i64 (l.getD 4 0), .int .i64 (l.getD 5 0)] 23 ∧ Blk w' b (Sig.cells LG x).toArray 30, ⟨H.get 0 rfl, hb4⟩, ?_⟩
    simp only [add_lit, Nat.zero_add]
    iterate 6 refine LdS.of (fun _ h => h.1) rfl ?_
    refine Nn.of ?_
    simp only [add_lit, Nat.zero_add]
    iterate 6 refine LdS.of (fun _ h => h.2) rfl ?_
    refine (c_mul (mx l) (ctm x) _).mono ?_
    rintro m e w5 ⟨hm, e5⟩
    have H := H.keep e5
    iterate 6 (refine H.st 0 rfl (by simp) fun _ H => ?_; simp only [List.set_cons_zero, List.set_cons_succ] at H)
    have E6 := E3.tr H.ext
    refine (c_must _ e _).mono ?_ ?_
    · rintro w7 ⟨he, rfl⟩
      iterate 6 refine H.ld 0 rfl rfl ?_
      cases hmm : mulP (mx l) (ctm x) with
      | none =>
        rw [hmm] at hm
        cases hm
        cases he
      | some mm =>
        rw [hmm] at hm
        cases hm
        refine Nn.of ?_
        simp only [add_lit, Nat.zero_add]
        refine stB (E6.blk hb.blk id) (show 0 < 30 by decide) fun _ g0 f0 => stB g0 (show 1 < 30 by decide) fun _ g1 f1 => stB g1 (show 2 < 30 by decide) fun _ g2 f2 => stB g2 (show 3 < 30 by decide) fun _ g3 f3 => stB g3 (show 4 < 30 by decide) fun _ g4 f4 => stB g4 (show 5 < 30 by decide) fun _ g5 f5 => ?_
        rw [setM x m] at g5
        refine hb.done (x' := upM x m) (dsh_M x m) ?_ g5 ((weak E6).tr (f0.tr (f1.tr (f2.tr (f3.tr (f4.tr f5))))))
        rw [hn, chg_cm, bnd_ok _ hnl, turnF_some (by rw [← hmm]; exact congrArg _ (ctm_er x)), er_M]
    · rintro v w7 ⟨rfl, he, rfl⟩
      cases hmm : mulP (mx l) (ctm x) with
      | some mm =>
        rw [hmm] at hm
        cases hm
        cases he
      | none =>
        rw [hmm] at hm
        cases hm
        refine ⟨2, ?_, rfl, weak E6⟩
        rw [hn, chg_cm, bnd_ok _ hnl, turnF_none (by rw [← hmm]; exact congrArg _ (ctm_er x))]
  · skip
    refine (Hn.start w3.drew).nw fun w4 H => ?_
    simp only [List.nil_append] at H
    refine ⟨hv.keep H.ext, ?_⟩
    iterate 6 (refine H.st 0 rfl (by simp) fun _ H => ?_; simp only [List.set_cons_zero, List.set_cons_succ] at H)
    have H := H.drew
    have hb4 := H.ext.blk hb3 id
    refine ⟨fun w' => Blk w' w3.drew.heap.size #[.int .i64 (l.getD 0 0), .int .i64 (l.getD 1 0), .int .i64 (l.getD 2 0), .int .i64 (l.getD 3 0), .int .i64 (l.getD 4 0), .int .i64 (l.getD 5 0)] 23 ∧ Blk w' b (Sig.cells LG x).toArray 30, ⟨H.get 0 rfl, hb4⟩, ?_⟩
    simp only [add_lit, Nat.zero_add]
    iterate 6 refine LdS.of (fun _ h => h.1) rfl ?_
    refine Nn.of ?_
    simp only [add_lit, Nat.zero_add]
    iterate 6 refine LdS.of (fun _ h => h.2) rfl ?_
    refine (c_mul (mx l) (ctm x) _).mono ?_
    rintro m e w5 ⟨hm, e5⟩
    have H := H.keep e5
    iterate 6 (refine H.st 0 rfl (by simp) fun _ H => ?_; simp only [List.set_cons_zero, List.set_cons_succ] at H)
    have E6 := E3.tr H.ext
    refine (c_must _ e _).mono ?_ ?_
    · rintro w7 ⟨he, rfl⟩
      iterate 6 refine H.ld 0 rfl rfl ?_
      cases hmm : mulP (mx l) (ctm x) with
      | none =>
        rw [hmm] at hm
        cases hm
        cases he
      | some mm =>
        rw [hmm] at hm
        cases hm
        refine Nn.of ?_
        simp only [add_lit, Nat.zero_add]
        refine stB (E6.blk hb.blk id) (show 0 < 30 by decide) fun _ g0 f0 => stB g0 (show 1 < 30 by decide) fun _ g1 f1 => stB g1 (show 2 < 30 by decide) fun _ g2 f2 => stB g2 (show 3 < 30 by decide) fun _ g3 f3 => stB g3 (show 4 < 30 by decide) fun _ g4 f4 => stB g4 (show 5 < 30 by decide) fun _ g5 f5 => ?_
        rw [setM x m] at g5
        refine hb.done (x' := upM x m) (dsh_M x m) ?_ g5 ((weak E6).tr (f0.tr (f1.tr (f2.tr (f3.tr (f4.tr f5))))))
        rw [hn, chg_cm, bnd_ok _ hnl, turnF_some (by rw [← hmm]; exact congrArg _ (ctm_er x)), er_M]
    · rintro v w7 ⟨rfl, he, rfl⟩
      cases hmm : mulP (mx l) (ctm x) with
      | some mm =>
        rw [hmm] at hm
        cases hm
        cases he
      | none =>
        rw [hmm] at hm
        cases hm
        refine ⟨2, ?_, rfl, weak E6⟩
        rw [hn, chg_cm, bnd_ok _ hnl, turnF_none (by rw [← hmm]; exact congrArg _ (ctm_er x))]
end
end Ste
end Go.Proofs.YtjbeembbnkmpeaaDoor
