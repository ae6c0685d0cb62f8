/- The reference's state: matrices, widths, caps, dashes. Conditions: sizes. -/
import Derived.Test.YtjbeembbnkmpeaaDoorStV
namespace Go.Proofs.YtjbeembbnkmpeaaDoor
namespace Ste
open Sh Mat Opr
set_option linter.unusedVariables false
set_option linter.unusedSimpArgs false
set_option maxRecDepth 8000
set_option maxHeartbeats 8000000
def line6 : List By := [[99, 109], [119], [77], [74], [106], [100]]
theorem nmR_all {t : By} {L : List Ob} {l : List Int} (ht : ∀ b ∈ t, b = 110) (hL : t.length = L.length) (hf : fitsT t L = true) (h : nmR L = some l) : nums L = .ok l ∧ l.length = L.length := by
  have hk : ∀ o ∈ L, o.1 = 2 ∨ o.1 = 3 := by
    intro o ho
    obtain ⟨i, hi⟩ := List.mem_iff_getElem?.1 ho
    have hlt := (List.getElem?_eq_some_iff.1 hi).1
    have hb : t[i]? = some t[i] := List.getElem?_eq_getElem (by omega)
    have hfk : fitsK t[i] o.1 = true := by
      by_cases hh : fitsK t[i] o.1 = true
      · exact hh
      · rw [fitsT_no hb hi (by simpa using hh)] at hf
        cases hf
    rw [ht _ (List.getElem_mem (by omega))] at hfk
    simpa [fitsK] using hfk
  have h1 := nmR_nums L hk
  rw [h] at h1
  refine ⟨h1, ?_⟩
  clear hL hf ht h1
  induction L generalizing l with
  | nil => cases h; rfl
  | cons o L ih =>
    unfold nmR at h
    rw [if_pos (hk o (List.mem_cons_self ..))] at h
    split at h
    · cases h
    · split at h
      · cases h
      · rename_i l' hl
        cases h
        simp [ih hl fun o ho => hk o (List.mem_cons_of_mem _ ho)]
theorem out3 {w w' : World} {M : List (Nat × List Value × TypeId)} {b b2 : Nat} {t t2 : TypeId} {y : G} {zs : List Value} {K : G → World → Prop} (H : Hn w w' M) (i j : Nat) (h0 : M[i]? = some (b, Sig.cells LG y, t)) (h2 : M[j]? = some (b2, zs, t2)) (hz : zs.length = 30) (k : ∀ w'', Ext (fun _ => False) w w'' → Ext (· = b2) w' w'' → K y w'') :
    LdT w' ⟨b, 0, none⟩ 0 LG fun x => StT ⟨b2, 0, none⟩ 0 LG x w' fun w'' => LdT w'' ⟨b2, 0, none⟩ 0 LG fun z => K z w'' := by
  refine ldG (H.get i h0) ?_
  refine StT.blk (pre := []) (post := []) (by rw [List.append_nil]; exact H.get j h2) rfl hz fun w7 g7 e7 => ?_
  rw [List.append_nil] at g7
  exact ldG g7 (k w7 (Ext.new H.ext e7 fun j' hj => by have := H.ge j h2; omega) e7)
section
variable {w w1 w7 : World} {s n : Slc} {l : List Int} {L K : List Ob} {x : G} {D : List Int} {a d : ByteArray} {o : Ob}
attribute [local irreducible] Ld Sh.St Nw Nn LdS LdT LdST StT
theorem st6 {w6 : World} {g : Nat} {c0 c1 c2 c3 c4 c5 : Value} {t : TypeId} (m : Mx) {K : World → Prop} (h : Blk w6 g [c0, c1, c2, c3, c4, c5].toArray t) (k : ∀ w', Blk w' g (mrow m).toArray t → Ext (· = g) w6 w' → K w') :
    Sh.St w6 ⟨g, 0, none⟩ (.int .i64 m.1) fun v1 => Sh.St v1 ⟨g, 1, none⟩ (.int .i64 m.2.1) fun v2 => Sh.St v2 ⟨g, 2, none⟩ (.int .i64 m.2.2.1) fun v3 => Sh.St v3 ⟨g, 3, none⟩ (.int .i64 m.2.2.2.1) fun v4 => Sh.St v4 ⟨g, 4, none⟩ (.int .i64 m.2.2.2.2.1) fun v5 => Sh.St v5 ⟨g, 5, none⟩ (.int .i64 m.2.2.2.2.2) K := by
  refine stB h (by simp) fun v1 h1 e1 => stB h1 (by simp) fun v2 h2 e2 => stB h2 (by simp) fun v3 h3 e3 => stB h3 (by simp) fun v4 h4 e4 => stB h4 (by simp) fun v5 h5 e5 => stB h5 (by simp) fun v6 h6 e6 => ?_
  exact k v6 (by simpa [mrow] using h6) (((((e1.tr e2).tr e3).tr e4).tr e5).tr e6)
/-- What the reference's line gives. -/
def LnR (w w1 : World) (x : G) (D : List Int) (nm : By) (L K : List Ob) (y : G) (e : Int) : Prop := Ext (fun _ => False) w w1 ∧ ((e = 0 ∧ ∃ D', chgF nm L K (er x, D) = .ok (er y, D') ∧ ((dsh y = dsh x ∧ D' = D) ∨ IO w w1 (dsh y) D')) ∨ (e ≠ 0 ∧ chgF nm L K (er x, D) = .error e))
theorem r_line (h : OV w s L) (hx : IV w (dsh x) D) (hn : match nmR L with
    | none => n = ⟨none, 0, 0⟩
    | some l => IV w n l) (hck : chkF (bl a) L (bl d) = 0) (hK : OV w (ob0 L).2.2.2.2.2 K) (hin : bl a ∈ line6) (hs : bl a ≠ [100] → ∃ l, nmR L = some l) :
    C119 x (a, s, d) n w fun y e w1 => LnR w w1 x D (bl a) L K y e := by
  refine T119 _ (a, s, d) _ _ _ ?_
  unfold S119
  refine (Hn.start w).nw fun w2 H => ?_
  refine H.nw fun w3 H => ?_
  refine H.nw fun w4 H => ?_
  simp only [List.cons_append, List.nil_append, add_lit, Nat.zero_add] at H ⊢
  obtain ⟨_, hlen, hfit⟩ := chk0 hck
  let base : List (Nat × List Value × TypeId) := [(w.heap.size, Sig.cells LG x, 30), (w2.heap.size, [.string a, Slc.v s, .string d], 63), (w3.heap.size, Sig.cells LG zeroG, 30)]
  have H : Hn w w4 base := H
  refine H.ld 1 rfl rfl ?_
  refine BrB (fun q => ?_) fun ncm => ?_
  · have q : bl a = [99, 109] := q
    obtain ⟨l, hl⟩ := hs (by rw [q]; decide)
    rw [hl] at hn
    have ht : takes (bl a) = [110, 110, 110, 110, 110, 110] := by rw [q]; decide +kernel
    rw [ht] at hlen hfit
    obtain ⟨hnum, hl6⟩ := nmR_all (t := [110, 110, 110, 110, 110, 110]) (by decide) hlen hfit hl
    have hl6 : l.length = 6 := by rw [hl6, ← hlen]; rfl
    have fin : ∀ (g : Nat) (e : Int) (m : Mx) (w' : World), Hn w w' base → Blk w' g (mrow m).toArray 23 → w4.heap.size ≤ g → (m, e) = resM (mulP (mx l) (ctm x)) →
        S119J1 w w3 (fun y e w1 => LnR w w1 x D (bl a) L K y e) (⟨g, 0, none⟩, e) w' := by
      intro g e m w' H' hg hlt hr
      unfold S119J1
      simp only [add_lit, Nat.zero_add]
      have l3 := H.lt 2 rfl
      have l1 := H.lt 0 rfl
      cases hm : mulP (mx l) (ctm x) with
      | none =>
        rw [hm] at hr
        cases hr
        refine Br.t (by decide) ?_
        refine out3 H' 0 2 rfl rfl rfl fun w'' e1 e2 => ⟨e1, .inr ⟨by decide, ?_⟩⟩
        rw [q, chg_cm, hnum]
        exact turnF_none (p := (er x, D)) (by show mulP (mx l) (ctm (er x)) = none; rw [ctm_er]; exact hm)
      | some m' =>
        rw [hm] at hr
        cases hr
        refine Br.f (by decide) ?_
        iterate 6 refine Ld.of hg rfl ?_
        simp only [base] at H'
        iterate 6 (refine H'.st 0 rfl (by (repeat rw [List.length_set]); exact ltG x (by decide)) fun _ H' => ?_; simp only [List.set_cons_zero, List.set_cons_succ] at H')
        rw [setM x m] at H'
        refine out3 H' 0 2 rfl rfl rfl fun w'' e1 e2 => ⟨e1, .inl ⟨by trivial, D, ?_, .inl ⟨dsh_M _ _, rfl⟩⟩⟩
        rw [q, chg_cm, hnum, er_M]
        exact turnF_some (p := (er x, D)) (by show mulP (mx l) (ctm (er x)) = some m; rw [ctm_er]; exact hm)
    refine Join.intro ?_
    have H4 := H
    have H := H.drew
    refine ⟨fun w' => Hn w w' base, H, ?_⟩
    have hS : ∀ w', Hn w w' base → IV w' n l := fun w' h' => hn.keep h'.ext
    have hB : ∀ w', Hn w w' base → Blk w' w.heap.size (Sig.cells LG x).toArray 30 := fun w' h' => h'.get 0 rfl
    refine ldS_iv hn hS (i := 0) (by omega) rfl ?_
    refine ldS_iv hn hS (i := 1) (by omega) rfl ?_
    refine ldS_iv hn hS (i := 2) (by omega) rfl ?_
    refine ldS_iv hn hS (i := 3) (by omega) rfl ?_
    refine ldS_iv hn hS (i := 4) (by omega) rfl ?_
    refine ldS_iv hn hS (i := 5) (by omega) rfl ?_
    refine LdS.of hB (at0 x) (LdS.of hB (at1 x) (LdS.of hB (at2 x) (LdS.of hB (at3 x) (LdS.of hB (at4 x) (LdS.of hB (at5 x) ?_)))))
    refine ⟨⟨H, ?_, ?_⟩, ?_⟩
    · refine (r_mul (mx l) (ctm x) _).mono ?_
      rintro m e w5 ⟨hr, e5⟩
      have H := H.keep e5
      have s5 := e5.size
      have B := Hn.start w5
      refine B.nw fun w6 B => ?_
      simp only [List.nil_append] at B
      iterate 6 (refine B.st 0 rfl (by simp) fun _ B => ?_; simp only [List.set_cons_zero, List.set_cons_succ] at B)
      exact fin _ _ m _ (H.keep B.ext) (B.get 0 rfl) s5 hr
    · refine H.nw' fun w5 H5 e5 => ?_
      have hb := H5.get 3 rfl
      have H5 : Hn w w5 base := H.keep e5
      refine ⟨H5, (r_mul (mx l) (ctm x) _).mono ?_⟩
      rintro m e w6 ⟨hr, e6⟩
      have H6 := H5.keep e6
      refine st6 m (e6.blk hb id) fun w7 hb7 e7 => fin _ _ m _ (H6.other e7 fun j hj => ⟨by have := H.size; rw [hj]; exact this, ?_⟩) hb7 (Nat.le_refl _) hr
      rw [hj]
      have l0 := H4.lt 0 rfl
      have l1 := H4.lt 1 rfl
      have l2 := H4.lt 2 rfl
      simp only [base, List.map_cons, List.map_nil, List.mem_cons, List.not_mem_nil, or_false, size_drew']
      omega
    · refine H.nw' fun w5 H5 e5 => ?_
      have hb := H5.get 3 rfl
      have H5 : Hn w w5 base := H.keep e5
      refine ⟨H5, H5, (r_mul (mx l) (ctm x) _).mono ?_⟩
      rintro m e w6 ⟨hr, e6⟩
      have H6 := H5.keep e6
      refine st6 m (e6.blk hb id) fun w7 hb7 e7 => fin _ _ m _ (H6.other e7 fun j hj => ⟨by have := H.size; rw [hj]; exact this, ?_⟩) hb7 (Nat.le_refl _) hr
      rw [hj]
      have l0 := H4.lt 0 rfl
      have l1 := H4.lt 1 rfl
      have l2 := H4.lt 2 rfl
      simp only [base, List.map_cons, List.map_nil, List.mem_cons, List.not_mem_nil, or_false, size_drew']
      omega
  have one : bl a ∈ ([[119], [77], [74], [106]] : List By) → ∃ o n', L = [o] ∧ nmR L = some [n'] ∧ numV o = some n' := by
    intro hm
    have ht : takes (bl a) = [110] := by
      simp only [List.mem_cons, List.not_mem_nil, or_false] at hm
      rcases hm with q | q | q | q <;> rw [q] <;> decide +kernel
    have hnd : bl a ≠ [100] := by
      simp only [List.mem_cons, List.not_mem_nil, or_false] at hm
      rcases hm with q | q | q | q <;> rw [q] <;> decide
    obtain ⟨l, hl⟩ := hs hnd
    rw [ht] at hlen hfit
    obtain ⟨o, n', h1, h2, h3⟩ := nmR_one hlen.symm hfit hl
    exact ⟨o, n', h1, by rw [hl, h2], h3⟩
  have J3t : bl a = [119] ∨ bl a = [77] → S119J3 w n w2 w3 a (fun y e w1 => LnR w w1 x D (bl a) L K y e) true w4 := by
    intro hq
    obtain ⟨o, n', rfl, hl, hv⟩ := one (by rcases hq with q | q <;> rw [q] <;> decide)
    rw [hl] at hn
    unfold S119J3
    simp only [add_lit, Nat.zero_add]
    refine Br.t rfl (atN 0 _ rfl (hn.keep H.ext) (Nat.succ_pos 0) ?_)
    have hnum : num (ob0 [o]) = .ok n' := by show num o = _; unfold num; rw [hv]
    refine Br.dec (fun q1 => ?_) fun q1 => ?_
    · have q1 : n' < 0 := q1
      have hab : abv (ob0 [o]) = .error 2 := by unfold abv; rw [hnum]; exact if_neg (by omega)
      refine out3 H 0 2 rfl rfl rfl fun w'' e1 e2 => ⟨e1, .inr ⟨by decide, ?_⟩⟩
      rcases hq with q | q
      · rw [q, chg_w, bnd_er _ hab]
      · rw [q, chg_M, bnd_er _ hab]
    · have q1 : ¬ n' < 0 := q1
      have hab : abv (ob0 [o]) = .ok n' := by unfold abv; rw [hnum]; exact if_pos (by omega)
      refine H.ld 1 rfl rfl ?_
      refine BrB (fun q => atN 0 _ rfl (hn.keep H.ext) (Nat.succ_pos 0) ?_) fun q => atN 0 _ rfl (hn.keep H.ext) (Nat.succ_pos 0) ?_
      · have q : bl a = [119] := q
        simp only [base] at H
        refine H.st 0 rfl (ltG x (by decide)) fun _ H => ?_
        simp only [List.set_cons_zero, List.set_cons_succ] at H
        rw [set6 x] at H
        refine out3 H 0 2 rfl rfl rfl fun w'' e1 e2 => ⟨e1, .inl ⟨by trivial, D, ?_, .inl ⟨dsh_6 _ _, rfl⟩⟩⟩
        rw [q, chg_w, bnd_ok _ hab, er_6]
        rfl
      · have q : bl a = [77] := hq.resolve_left q
        simp only [base] at H
        refine H.st 0 rfl (ltG x (by decide)) fun _ H => ?_
        simp only [List.set_cons_zero, List.set_cons_succ] at H
        rw [set9 x] at H
        refine out3 H 0 2 rfl rfl rfl fun w'' e1 e2 => ⟨e1, .inl ⟨by trivial, D, ?_, .inl ⟨dsh_9 _ _, rfl⟩⟩⟩
        rw [q, chg_M, bnd_ok _ hab, er_9]
        rfl
  have J2t : bl a = [74] ∨ bl a = [106] → S119J2 w n w2 w3 a (fun y e w1 => LnR w w1 x D (bl a) L K y e) true w4 := by
    intro hq
    obtain ⟨o, n', rfl, hl, hv⟩ := one (by rcases hq with q | q <;> rw [q] <;> decide)
    rw [hl] at hn
    unfold S119J2
    simp only [add_lit, Nat.zero_add]
    refine Br.t rfl (atN 0 _ rfl (hn.keep H.ext) (Nat.succ_pos 0) ?_)
    have hnum : num (ob0 [o]) = .ok n' := by show num o = _; unfold num; rw [hv]
    refine (r_whole n' 2 (numV_bnd hv) (by decide) _).mono ?_
    rintro r w5 ⟨rfl, rfl⟩
    by_cases hw : 0 ≤ n' ∧ n' ≤ 2 * 10000 ∧ Int.tmod n' 10000 = 0
    · rw [decide_eq_true hw]
      have hab : whl (ob0 [o]) 2 = .ok (Int.tdiv n' 10000) := by unfold whl; rw [hnum]; exact if_pos hw
      have hi : IntKind.i64.wrap (Int.tdiv n' 10000) = Int.tdiv n' 10000 := by rw [tdiv_id hw.1, i64_id (by omega)]
      refine Br.f rfl (H.ld 1 rfl rfl ?_)
      refine BrB (fun q => atN 0 _ rfl (hn.keep H.ext) (Nat.succ_pos 0) ?_) fun q => atN 0 _ rfl (hn.keep H.ext) (Nat.succ_pos 0) ?_
      · have q : bl a = [74] := q
        show Sh.St _ _ (.int .i64 (IntKind.i64.wrap (Int.tdiv n' 10000))) _
        rw [hi]
        simp only [base] at H
        refine H.st 0 rfl (ltG x (by decide)) fun _ H => ?_
        simp only [List.set_cons_zero, List.set_cons_succ] at H
        rw [set7 x] at H
        refine out3 H 0 2 rfl rfl rfl fun w'' e1 e2 => ⟨e1, .inl ⟨by trivial, D, ?_, .inl ⟨dsh_7 _ _, rfl⟩⟩⟩
        rw [q, chg_J, bnd_ok _ hab, er_7]
      · have q : bl a = [106] := hq.resolve_left q
        show Sh.St _ _ (.int .i64 (IntKind.i64.wrap (Int.tdiv n' 10000))) _
        rw [hi]
        simp only [base] at H
        refine H.st 0 rfl (ltG x (by decide)) fun _ H => ?_
        simp only [List.set_cons_zero, List.set_cons_succ] at H
        rw [set8 x] at H
        refine out3 H 0 2 rfl rfl rfl fun w'' e1 e2 => ⟨e1, .inl ⟨by trivial, D, ?_, .inl ⟨dsh_8 _ _, rfl⟩⟩⟩
        rw [q, chg_j, bnd_ok _ hab, er_8]
    · rw [decide_eq_false hw]
      have hab : whl (ob0 [o]) 2 = .error 2 := by unfold whl; rw [hnum]; exact if_neg hw
      refine Br.t rfl ?_
      refine out3 H 0 2 rfl rfl rfl fun w'' e1 e2 => ⟨e1, .inr ⟨by decide, ?_⟩⟩
      rcases hq with q | q
      · rw [q, chg_J, bnd_er _ hab]
      · rw [q, chg_j, bnd_er _ hab]
  have J2f : bl a = [100] → S119J2 w n w2 w3 a (fun y e w1 => LnR w w1 x D (bl a) L K y e) false w4 := by
    intro q
    have ht : takes (bl a) = [97, 110] := by rw [q]; decide +kernel
    rw [ht] at hlen hfit
    obtain ⟨p, o, rfl⟩ : ∃ p o, L = [p, o] := by
      match L, hlen with
      | [p, o], _ => exact ⟨p, o, rfl⟩
    have hkk : p.1 = 6 ∧ (o.1 = 2 ∨ o.1 = 3) := by simpa [fitsT, fitsK] using hfit
    have hnl : nmR [p, o] = (match numV o with
        | none => none
        | some n => some [n]) := by
      unfold nmR
      rw [if_neg (by omega)]
      unfold nmR
      rw [if_pos hkk.2]
      cases numV o <;> rfl
    unfold S119J2
    simp only [add_lit, Nat.zero_add]
    refine Br.f rfl ?_
    refine BrB (fun _ => H.ld 1 rfl rfl ?_) fun nq => absurd q nq
    obtain ⟨ad, ha, c0, c1, c2, c3, c4, c5⟩ := (h.keep H.ext).get (i := 0) rfl
    have hsl := h.1
    rw [ha]
    refine ⟨by omega, by rw [hsl]; simp, Nn.of ?_⟩
    refine Ld.mk c0 (Ld.mk c1 (Ld.mk c2 (Ld.mk c3 (Ld.mk c4 (Ld.mk c5 ?_)))))
    refine (r_dash (o := p) (K := K) (hK.keep H.ext)).mono ?_
    rintro r e w5 ⟨e5, hr⟩
    have H5 := H.keep e5
    have hch : chgF (bl a) [p, o] K (er x, D) = bnd (dshF K o) fun x' => .ok (up11 (er x) x'.2, x'.1) := by rw [q]; rfl
    rw [dshF_K] at hch
    cases hd : dshK K with
    | error e' =>
      rw [hd] at hr hch
      obtain ⟨rfl, hne⟩ := hr
      refine Br.t (by simpa using hne) ?_
      exact out3 H5 0 2 rfl rfl rfl fun w'' e1 e2 => ⟨e1, .inr ⟨hne, hch⟩⟩
    | ok D' =>
      rw [hd] at hr hch
      obtain ⟨rfl, ho⟩ := hr
      refine Br.f (by decide) ?_
      have hbad : (numV o = none ∨ ∃ n', numV o = some n' ∧ n' < 0) → chgF (bl a) [p, o] K (er x, D) = .error 2 := by
        intro hh
        have : abv o = .error 2 := by
          unfold abv num
          rcases hh with hh | ⟨n', hh, hn'⟩
          · rw [hh]
          · rw [hh]
            exact if_neg (by omega)
        rw [hch, this]
        rfl
      cases hv : numV o with
      | none =>
        rw [hnl, hv] at hn
        have hn : n = ⟨none, 0, 0⟩ := hn
        subst hn
        refine Br.t (by decide) ?_
        exact out3 H5 0 2 rfl rfl rfl fun w'' e1 e2 => ⟨e1, .inr ⟨by decide, hbad (.inl hv)⟩⟩
      | some n' =>
        rw [hnl, hv] at hn
        have hn : IV w n [n'] := hn
        have hnlen : n.len = 1 := hn.1
        refine Br.f (by rw [hnlen]; decide) (atN 0 _ rfl (hn.keep H5.ext) (Nat.succ_pos 0) ?_)
        refine Br.dec (fun q1 => out3 H5 0 2 rfl rfl rfl fun w'' e1 e2 => ⟨e1, .inr ⟨by decide, hbad (.inr ⟨n', hv, q1⟩)⟩⟩) fun q1 => ?_
        have q1 : ¬ n' < 0 := q1
        simp only [base] at H5
        refine H5.st' 0 rfl (ltG x (by decide)) fun w6 H6 e6 => ?_
        simp only [List.set_cons_zero, List.set_cons_succ] at H6
        rw [set10 x] at H6
        refine atN 0 _ rfl (hn.keep H6.ext) (Nat.succ_pos 0) ?_
        refine H6.st' 0 rfl (ltG x (by decide)) fun w7 H7 e7 => ?_
        simp only [List.set_cons_zero, List.set_cons_succ] at H7
        rw [set11 (up10 x r)] at H7
        have l0 := H.lt 0 rfl
        have l2 := H.lt 2 rfl
        have hw4 := H.size
        have hiv : Row w7 r 2 1 (ints D') := (ho.1.keep e6 fun j hj e => by have := ho.2 j hj; omega).keep e7 fun j hj e => by have := ho.2 j hj; omega
        refine out3 H7 0 2 rfl rfl rfl fun w'' e1 e2 => ⟨e1, .inl ⟨by trivial, D', ?_, ?_⟩⟩
        · rw [hch]
          have hab : abv o = .ok n' := by unfold abv num; rw [hv]; exact if_pos (by omega)
          rw [hab, er_11, er_10]
          rfl
        · rw [dsh_11, dsh_10]
          exact .inr ⟨hiv.keep e2 fun j hj e => by have := ho.2 j hj; omega, fun j hj => by have := ho.2 j hj; omega⟩
  refine Join.intro ?_
  have tB : ∀ {c : By} {cb : ByteArray}, bl cb = c → bl a = c → (a.toList == cb.toList) = true := fun h1 h2 => by rw [eqB, h1, h2]; exact decide_eq_true rfl
  have fB : ∀ {c : By} {cb : ByteArray}, bl cb = c → bl a ≠ c → (a.toList == cb.toList) = false := fun h1 h2 => by rw [eqB, h1]; exact decide_eq_false h2
  refine BrB (fun q => ?_) fun nw => ?_
  · rw [tB (c := [119]) rfl q]
    exact J3t (.inl q)
  by_cases hM : bl a = [77]
  · rw [tB (c := [77]) rfl hM]
    exact J3t (.inr hM)
  rw [fB (c := [77]) rfl hM]
  unfold S119J3
  refine Br.f rfl (Join.intro (BrB (fun q => ?_) fun nJ => ?_))
  · rw [tB (c := [74]) rfl q]
    exact J2t (.inl q)
  by_cases hj : bl a = [106]
  · rw [tB (c := [106]) rfl hj]
    exact J2t (.inr hj)
  rw [fB (c := [106]) rfl hj]
  refine J2f ?_
  unfold line6 at hin
  simp only [List.mem_cons, List.not_mem_nil, or_false] at hin
  rcases hin with q | q | q | q | q | q
  · exact absurd q ncm
  · exact absurd q nw
  · exact absurd q hM
  · exact absurd q nJ
  · exact absurd q hj
  · exact q
end
end Ste
end Go.Proofs.YtjbeembbnkmpeaaDoor
