/- Shown strings: String and Step, whole. Conditions: sizes, the laid tables. -/
import Derived.Test.YtcblpehnkogfdaaDoorSwD
namespace Go.Proofs.YtcblpehnkogfdaaDoor
namespace Sw
open Sh Mat Fix Fo
set_option linter.unusedVariables false
set_option linter.unusedSimpArgs false
set_option maxRecDepth 4000
set_option maxHeartbeats 4000000
attribute [local irreducible] Ld St Nw Nn Lt LdS
theorem c_caught_nil (a : Option Addr) (w : World) : C14 Value.nilIface a w (fun w1 => w1 = w) fun _ _ => False := by
  refine T14_nil _ _ _ _ ?_
  unfold S14_nil
  rfl
theorem c_caught {w0 w : World} {L : List (Nat × List Value × TypeId)} {b o : Nat} {cs : List Value} {t : TypeId} (H : Hn w0 w L) (e : Int) (i : Nat) (hi : L[i]? = some (b, cs, t)) (ho : o < cs.length) :
    C14 (gup e) (some ⟨b, o, none⟩) w (fun w1 => Hn w0 w1 (L.set i (b, cs.set o (.int .i64 e), t))) fun _ _ => False := by
  refine T14_T78 _ _ _ _ _ ?_
  unfold S14_T78
  have hi' : (L ++ [(w.heap.size, [.int .i64 0], 78)])[i]? = some (b, cs, t) := by
    rw [List.getElem?_append_left (List.getElem?_eq_some_iff.1 hi).1]; exact hi
  have hl : (L ++ [(w.heap.size, [.int .i64 0], 78)])[L.length]? = some (w.heap.size, [.int .i64 0], 78) := by simp
  refine H.nw' fun w2 H2 he2 => ?_
  refine H2.st' L.length hl (by simp) fun w3 H3 he3 => ?_
  have hlen : L.length < (L ++ [(w.heap.size, [Value.int .i64 0], 78)]).length := by simp
  refine H3.ld L.length (by rw [List.getElem?_set_self hlen]) rfl (Nn.of ?_)
  have H4 := H.keep he2
  have H5 := H4.other he3 (fun j hj => ⟨by rw [hj]; exact H.size, fun hm => by
    have := H.all_lt hm
    omega⟩)
  exact H5.st i hi ho fun w4 H6 => H6
section
variable {w : World} {g : GT} {x : FT} {f : Font}
theorem c_string (hT : TB w) (h : FoV w x f) (m : Mx) {s : ByteArray} (hs : s.size ≤ 1048576) :
    C6 g m x s w fun r m2 e w1 => Ext (fun _ => False) w w1 ∧ ∃ L, stringF g m f s = (L, m2, e) ∧ VRow w1 r 9 (L.flatMap glc) ∧ ∀ j, r.own j → w.heap.size ≤ j := by
  refine T6 _ _ _ _ _ _ ?_
  unfold S6
  refine Nw.of ?_
  have H := gr_blk w g
  generalize w.alloc (.cells (Sig.cells LiA29 g).toArray 30) = wa at *
  refine H.nw fun w6 H => H.nw fun w7 H => H.nw fun w8 H => H.nw fun w9 H => H.nw fun w10 H => ?_
  refine H.ldT (i := 0) (pre := []) (post := []) (ts := LiA29) (x := g) rfl rfl ?_
  refine H.ldT (i := 2) (pre := []) (post := []) (ts := LiA33) (x := x) rfl rfl ?_
  refine H.ld 1 rfl (x := m.1) rfl (H.ld 1 rfl (x := m.2.1) rfl (H.ld 1 rfl (x := m.2.2.1) rfl (H.ld 1 rfl (x := m.2.2.2.1) rfl (H.ld 1 rfl (x := m.2.2.2.2.1) rfl (H.ld 1 rfl (x := m.2.2.2.2.2) rfl ?_)))))
  refine (c_text (g := g) (hT.keep H.ext) (h.keep H.ext) m hs).mono (fun r m2 w32 h32 => ?_) fun v w32 h32 => ?_
  · obtain ⟨hask, e32, L, hsp, hv, ho⟩ := h32
    have hF : stringF g m f s = (L, m2, 0) := by
      unfold stringF
      rw [if_neg (by rw [hask]; simp), hsp]
    have hne : ∀ (i : Nat) {b : Nat}, [w.heap.size, wa.heap.size, w6.heap.size, w7.heap.size, w8.heap.size, w9.heap.size][i]? = some b → ∀ j, r.own j → ¬ j = b := fun i b hi j hj e => by
      have h1 := ho j hj
      have h2 := H.all_lt (j := b) (List.mem_of_getElem? hi)
      omega
    have hof : ∀ j, r.own j → w.heap.size ≤ j := fun j hj => by
      have h1 := ho j hj
      have h2 := H.size
      omega
    have H := H.keep e32
    iterate 1 (refine H.st' 3 rfl (by simp) fun _ H he => ?_; replace hv := hv.keepF he (hne 3 rfl); clear he; simp only [List.nil_append, List.cons_append, List.set_cons_zero, List.set_cons_succ, Nat.zero_add] at H)
    iterate 6 (refine H.st' 4 rfl (by simp) fun _ H he => ?_; replace hv := hv.keepF he (hne 4 rfl); clear he; simp only [List.nil_append, List.cons_append, List.set_cons_zero, List.set_cons_succ, Nat.zero_add] at H)
    have H := H.drew
    replace hv := hv.keep (Ext.refl (fun _ => False) _).drew
    rename_i wq
    refine ⟨fun w' => Hn w w' [(w.heap.size, [.int .i64 (g.1), .int .i64 (g.2.1), .int .i64 (g.2.2.1), .int .i64 (g.2.2.2.1), .int .i64 (g.2.2.2.2.1), .int .i64 (g.2.2.2.2.2.1), .int .i64 (g.2.2.2.2.2.2.1), .int .i64 (g.2.2.2.2.2.2.2.1), .int .i64 (g.2.2.2.2.2.2.2.2.1), .int .i64 (g.2.2.2.2.2.2.2.2.2.1), Slc.v (g.2.2.2.2.2.2.2.2.2.2.1), .int .i64 (g.2.2.2.2.2.2.2.2.2.2.2.1), .int .i64 (g.2.2.2.2.2.2.2.2.2.2.2.2.1), .int .i64 (g.2.2.2.2.2.2.2.2.2.2.2.2.2.1), .int .i64 (g.2.2.2.2.2.2.2.2.2.2.2.2.2.2.1), .int .i64 (g.2.2.2.2.2.2.2.2.2.2.2.2.2.2.2.1), .int .i64 (g.2.2.2.2.2.2.2.2.2.2.2.2.2.2.2.2.1), .int .i64 (g.2.2.2.2.2.2.2.2.2.2.2.2.2.2.2.2.2.1), .int .i64 (g.2.2.2.2.2.2.2.2.2.2.2.2.2.2.2.2.2.2.1), .int .i64 (g.2.2.2.2.2.2.2.2.2.2.2.2.2.2.2.2.2.2.2.1), .int .i64 (g.2.2.2.2.2.2.2.2.2.2.2.2.2.2.2.2.2.2.2.2.1), .int .i64 (g.2.2.2.2.2.2.2.2.2.2.2.2.2.2.2.2.2.2.2.2.2.1), .int .i64 (g.2.2.2.2.2.2.2.2.2.2.2.2.2.2.2.2.2.2.2.2.2.2.1), .int .i64 (g.2.2.2.2.2.2.2.2.2.2.2.2.2.2.2.2.2.2.2.2.2.2.2.1), .int .i64 (g.2.2.2.2.2.2.2.2.2.2.2.2.2.2.2.2.2.2.2.2.2.2.2.2.1), .int .i64 (g.2.2.2.2.2.2.2.2.2.2.2.2.2.2.2.2.2.2.2.2.2.2.2.2.2.1), .int .i64 (g.2.2.2.2.2.2.2.2.2.2.2.2.2.2.2.2.2.2.2.2.2.2.2.2.2.2.1), .int .i64 (g.2.2.2.2.2.2.2.2.2.2.2.2.2.2.2.2.2.2.2.2.2.2.2.2.2.2.2.1), .string (g.2.2.2.2.2.2.2.2.2.2.2.2.2.2.2.2.2.2.2.2.2.2.2.2.2.2.2.2.1), .int .i64 (g.2.2.2.2.2.2.2.2.2.2.2.2.2.2.2.2.2.2.2.2.2.2.2.2.2.2.2.2.2)], 30), (wa.heap.size, mrow m, 23), (w6.heap.size, [.string (x.1), .bool (x.2.1), .int .i64 (x.2.2.1), Slc.v (x.2.2.2.1), .int .i64 (x.2.2.2.2.1), Slc.v (x.2.2.2.2.2.1), Slc.v (x.2.2.2.2.2.2)], 34), (w7.heap.size, [Slc.v r], 37), (w8.heap.size, mrow m2, 23), (w9.heap.size, [.int .i64 0], 38)], H, ?_⟩
    refine ldS_mk (x := r) (fun w' hw => by rw [(hw.get 3 rfl).cell]; rfl) ?_
    refine ldS_mk (x := m2.1) (fun w' hw => by rw [(hw.get 4 rfl).cell]; rfl) (ldS_mk (x := m2.2.1) (fun w' hw => (hw.get 4 rfl).cell 1) (ldS_mk (x := m2.2.2.1) (fun w' hw => (hw.get 4 rfl).cell 2) (ldS_mk (x := m2.2.2.2.1) (fun w' hw => (hw.get 4 rfl).cell 3) (ldS_mk (x := m2.2.2.2.2.1) (fun w' hw => (hw.get 4 rfl).cell 4) (ldS_mk (x := m2.2.2.2.2.2) (fun w' hw => (hw.get 4 rfl).cell 5) ?_)))))
    iterate 1 (refine H.st' 3 rfl (by simp) fun _ H he => ?_; replace hv := hv.keepF he (hne 3 rfl); clear he; simp only [List.nil_append, List.cons_append, List.set_cons_zero, List.set_cons_succ, Nat.zero_add] at H)
    refine ⟨H, ?_⟩
    iterate 6 (refine H.st' 4 rfl (by simp) fun _ H he => ?_; replace hv := hv.keepF he (hne 4 rfl); clear he; simp only [List.nil_append, List.cons_append, List.set_cons_zero, List.set_cons_succ, Nat.zero_add] at H)
    iterate 1 (refine H.st' 5 rfl (by simp) fun _ H he => ?_; replace hv := hv.keepF he (hne 5 rfl); clear he; simp only [List.nil_append, List.cons_append, List.set_cons_zero, List.set_cons_succ, Nat.zero_add] at H)
    refine T13_nil _ _ _ _ _ ?_
    unfold S13_nil
    refine (c_caught_nil _ _).mono (fun w1 h1 => ?_) fun _ _ h => h.elim
    subst h1
    refine H.ld 5 rfl (x := 0) rfl (Br.ne (fun h0 => absurd rfl h0) fun _ => ?_)
    refine H.ld 3 rfl (x := r) rfl ?_
    iterate 6 refine H.ld 4 rfl rfl ?_
    refine H.ld 5 rfl (x := 0) rfl ⟨H.ext, L, hF, hv, hof⟩
  · obtain ⟨e, rfl, he, hF, e32⟩ := h32
    have H := H.keep e32
    unfold S6P
    refine T13_T78 _ _ _ _ _ _ ?_
    unfold S13_T78
    refine (c_caught H e 5 rfl (by simp)).mono (fun w5 H => ?_) fun _ _ h => h.elim
    simp only [List.nil_append, List.cons_append, List.set_cons_zero, List.set_cons_succ, Nat.zero_add] at H
    refine H.ld 5 rfl (x := e) rfl (Br.ne (fun _ => ?_) fun h0 => absurd h0 he)
    iterate 1 (refine H.st 3 rfl (by simp) fun _ H => ?_; simp only [List.nil_append, List.cons_append, List.set_cons_zero, List.set_cons_succ, Nat.zero_add] at H)
    iterate 6 (refine H.st 4 rfl (by simp) fun _ H => ?_; simp only [List.nil_append, List.cons_append, List.set_cons_zero, List.set_cons_succ, Nat.zero_add] at H)
    refine H.ld 3 rfl (x := ⟨none, 0, 0⟩) rfl ?_
    iterate 6 refine H.ld 4 rfl rfl ?_
    refine H.ld 5 rfl (x := e) rfl ⟨H.ext, [], hF, Row.view (Row.nil _ 45 _), fun j hj => (no_own j hj).elim⟩
theorem c_stepW (hT : TB w) (h : FoV w x f) {code : Int} (hc : I64 code) : C11 g x code w fun r e w1 => (r, e) = stepF g f code ∧ Ext (fun _ => False) w w1 := by
  refine T11 _ _ _ _ _ ?_
  unfold S11
  refine Nw.of ?_
  have H := gr_blk w g
  generalize w.alloc (.cells (Sig.cells LiA29 g).toArray 30) = wa at *
  refine H.nw fun w5 H => H.nw fun w6 H => H.nw fun w7 H => ?_
  have bad : ∀ (e : Int) (w1 : World), e ≠ 0 → stepF g f code = (0, e) → Ext (fun _ => False) w7 w1 → S11P w5 w6 (fun r e w1 => (r, e) = stepF g f code ∧ Ext (fun _ => False) w w1) (gup e) w1 := fun e w1 he hF e1 => by
    have H := H.keep e1
    unfold S11P
    refine T23_T78 _ _ _ _ _ ?_
    unfold S23_T78
    refine (c_caught H e 3 rfl (by simp)).mono (fun w5 H => ?_) fun _ _ h => h.elim
    simp only [List.nil_append, List.cons_append, List.set_cons_zero, List.set_cons_succ, Nat.zero_add] at H
    refine H.ld 3 rfl (x := e) rfl (Br.ne (fun _ => ?_) fun h0 => absurd h0 he)
    iterate 1 (refine H.st 2 rfl (by simp) fun _ H => ?_; simp only [List.nil_append, List.cons_append, List.set_cons_zero, List.set_cons_succ, Nat.zero_add] at H)
    exact H.ld 2 rfl (x := 0) rfl (H.ld 3 rfl (x := e) rfl ⟨hF.symm, H.ext⟩)
  refine H.ldT (i := 0) (pre := []) (post := []) (ts := LiA29) (x := g) rfl rfl ?_
  refine (c_use g _).mono (fun w14 h14 => ?_) fun v w14 h14 => by
    obtain ⟨rfl, hg, e14⟩ := h14
    exact bad 2 w14 (by decide) (by unfold stepF; rw [if_pos hg]) e14
  obtain ⟨hg, e14⟩ := h14
  have E14 := e14.drew
  have H14 := H.keep E14
  refine ⟨Ext (fun _ => False) w14.drew, Ext.refl _ _, ?_⟩
  refine LdST.blk (ts := LiA33) (pre := []) (post := []) (t := 34) (x := x) (fun w' hw => hw.blk (H14.get 1 rfl) id) rfl ?_
  refine LdST.blk (ts := LiA33) (pre := []) (post := []) (t := 34) (x := x) (fun w' hw => hw.blk (H14.get 1 rfl) id) rfl ?_
  refine (c_chk (hT.keep H14.ext) (h.keep H14.ext)).mono ?_
  rintro r w19 ⟨rfl, e19⟩
  refine ⟨e19, (c_mustF x _ _).mono (fun r2 w21 h21 => ?_) fun v w21 h21 => ?_⟩
  case refine_2 =>
    obtain ⟨rfl, hk, e21⟩ := h21
    exact bad _ w21 hk (by unfold stepF; rw [if_neg (by simp [hg]), if_pos hk]) ((E14.tr e19).tr e21)
  obtain ⟨rfl, hk, e21⟩ := h21
  have hmay := chk_may hk
  have E21 := (E14.tr e19).tr e21
  have H21 := H.keep E21
  refine H21.ldT (i := 0) (pre := []) (post := []) (ts := LiA29) (x := g) rfl rfl ?_
  refine H21.ldT (i := 1) (pre := []) (post := []) (ts := LiA33) (x := r2) rfl rfl ?_
  refine (Hn.start w21).nw fun w24 K => ?_
  refine K.stT (i := 0) (pre := []) (post := []) (ts := LiA60) (x := hand g r2) (zs := [.int .i64 0, .int .i64 0, .int .i64 0, .int .i64 0, .int .i64 0, .int .i64 0, .int .i64 0, .int .i64 0, .int .i64 0, .int .i64 0, Slc.v ⟨none, 0, 0⟩, .int .i64 0, .int .i64 0, .int .i64 0, .int .i64 0, .int .i64 0, .int .i64 0, .int .i64 0, .int .i64 0, .int .i64 0, .int .i64 0, .int .i64 0, .int .i64 0, .int .i64 0, .int .i64 0, .int .i64 0, .int .i64 0, .int .i64 0, .string ⟨#[]⟩, .int .i64 0, .string ⟨#[]⟩, .bool false, .int .i64 0, Slc.v ⟨none, 0, 0⟩, .int .i64 0, Slc.v ⟨none, 0, 0⟩, Slc.v ⟨none, 0, 0⟩]) rfl rfl rfl fun w25 K => ?_
  have K := K.drew
  have E25 := E21.tr K.ext
  refine ⟨Ext (fun _ => False) w25.drew, Ext.refl _ _, ?_⟩
  refine LdST.blk (ts := LiA60) (pre := []) (post := []) (t := 61) (x := hand g r2) (fun w' hw => hw.blk (K.get 0 rfl) id) rfl ?_
  refine LdST.blk (ts := LiA60) (pre := []) (post := []) (t := 61) (x := hand g r2) (fun w' hw => hw.blk (K.get 0 rfl) id) rfl ?_
  have hF : stepF g f code = resI ((widthP g f code).bind fun w => stepP g f code w) := by
    unfold stepF
    rw [if_neg (by simp [hg]), if_neg (by simp [hk])]
  refine (c_wide (g := g) (h.keep (H.ext.tr E25)) hmay hc).mono (fun wd w30 h30 => ?_) fun v w30 h30 => by
    obtain ⟨rfl, hn, e30⟩ := h30
    exact bad 2 w30 (by decide) (by rw [hF, hn]; rfl) (E25.tr e30)
  obtain ⟨hwd, e30⟩ := h30
  refine ⟨e30, (c_step (g := g) (h.keep ((H.ext.tr E25).tr e30)) (useG_in hg).2.2.2.1).mono (fun st w32 h32 => ?_) fun v w32 h32 => by
    obtain ⟨rfl, hn, e32⟩ := h32
    exact bad 2 w32 (by decide) (by rw [hF, hwd]; show resI (stepP g f code wd) = _; rw [hn]; rfl) ((E25.tr e30).tr e32)⟩
  obtain ⟨hst, e32⟩ := h32
  have H := H.keep ((E25.tr e30).tr e32)
  iterate 1 (refine H.st 2 rfl (by simp) fun _ H => ?_; simp only [List.nil_append, List.cons_append, List.set_cons_zero, List.set_cons_succ, Nat.zero_add] at H)
  iterate 1 (refine H.st 3 rfl (by simp) fun _ H => ?_; simp only [List.nil_append, List.cons_append, List.set_cons_zero, List.set_cons_succ, Nat.zero_add] at H)
  refine T23_nil _ _ _ _ ?_
  unfold S23_nil
  refine (c_caught_nil _ _).mono (fun w1 h1 => ?_) fun _ _ h => h.elim
  subst h1
  refine H.ld 3 rfl (x := 0) rfl (Br.ne (fun h0 => absurd rfl h0) fun _ => ?_)
  exact H.ld 2 rfl (x := st) rfl (H.ld 3 rfl (x := 0) rfl ⟨by rw [hF, hwd]; show _ = resI (stepP g f code wd); rw [hst]; rfl, H.ext⟩)
end
end Sw
end Go.Proofs.YtcblpehnkogfdaaDoor
