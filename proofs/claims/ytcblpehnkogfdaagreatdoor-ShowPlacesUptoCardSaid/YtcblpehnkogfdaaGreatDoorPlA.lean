/- Text machines: strings under matrices that only move, plain. Conditions: none. -/
import Derived.Test.YtcblpehnkogfdaaGreatDoorLiC
import Derived.Test.YtcblpehnkogfdaaGreatDoorSxJ
namespace Go.Proofs.YtcblpehnkogfdaaGreatDoor
namespace Ma
open Sh Mat Fix Fo Sw Opr Pat
set_option linter.unusedVariables false
set_option linter.unusedSimpArgs false
set_option maxRecDepth 8000
set_option maxHeartbeats 4000000
theorem dotP_val {l : List Int} {n : Int} (h : dotP l = some n) : n = near (psum l (l.length / 2)) := by
  unfold dotP at h
  split at h
  · cases h; rfl
  · cases h
theorem dot6 {a b c d e n : Int} (h : dotP [a, b, c, d, e, 10000] = some n) : n = near (a * b + c * d + e * 10000) := by
  have := dotP_val h
  simpa [psum] using this
theorem dot4 {a b c d n : Int} (h : dotP [a, b, c, d] = some n) : n = near (a * b + c * d) := by
  have := dotP_val h
  simpa [psum] using this
theorem near_at (n : Int) : near (n * 10000) = n := by unfold near; omega
theorem apply_move {a b x y : Int} {q : Int × Int} (h : applyP (moveM a b) (x, y) = some q) : q = (x + a, y + b) := by
  unfold applyP at h
  split at h
  · obtain ⟨u, h1, h⟩ := Option.bind_eq_some_iff.1 h
    obtain ⟨v, h2, h⟩ := Option.bind_eq_some_iff.1 h
    cases h
    have e1 : u = near (x * 10000 + y * 0 + a * 10000) := dot6 h1
    have e2 : v = near (x * 0 + y * 10000 + b * 10000) := dot6 h2
    rw [show x * 10000 + y * 0 + a * 10000 = (x + a) * 10000 by omega, near_at] at e1
    rw [show x * 0 + y * 10000 + b * 10000 = (y + b) * 10000 by omega, near_at] at e2
    rw [e1, e2]
  · cases h
theorem mul_move {a b c d : Int} {m : Mx} (h : mulP (moveM a b) (moveM c d) = some m) : m = moveM (a + c) (b + d) := by
  unfold mulP at h
  split at h
  · obtain ⟨x1, h1, h⟩ := Option.bind_eq_some_iff.1 h
    obtain ⟨x2, h2, h⟩ := Option.bind_eq_some_iff.1 h
    obtain ⟨x3, h3, h⟩ := Option.bind_eq_some_iff.1 h
    obtain ⟨x4, h4, h⟩ := Option.bind_eq_some_iff.1 h
    obtain ⟨x5, h5, h⟩ := Option.bind_eq_some_iff.1 h
    obtain ⟨x6, h6, h⟩ := Option.bind_eq_some_iff.1 h
    cases h
    have e1 : x1 = near (10000 * 10000 + 0 * 0) := dot4 h1
    have e2 : x2 = near (10000 * 0 + 0 * 10000) := dot4 h2
    have e3 : x3 = near (0 * 10000 + 10000 * 0) := dot4 h3
    have e4 : x4 = near (0 * 0 + 10000 * 10000) := dot4 h4
    have e5 : x5 = near (a * 10000 + b * 0 + c * 10000) := dot6 h5
    have e6 : x6 = near (a * 0 + b * 10000 + d * 10000) := dot6 h6
    rw [show a * 10000 + b * 0 + c * 10000 = (a + c) * 10000 by omega, near_at] at e5
    rw [show a * 0 + b * 10000 + d * 10000 = (b + d) * 10000 by omega, near_at] at e6
    rw [e1, e2, e3, e4, e5, e6]
    rfl
  · cases h
theorem lenO_is {m : Mx} {p : Int × Int} {n : Int} (h : lenO m p = some n) : IsLen m p (n, 0) := by
  unfold lenO at h
  split at h
  · cases h
  · split at h
    · rename_i hx
      cases h
      exact Classical.choose_spec hx
    · cases h
theorem root_abs (s : Int) : isRoot (0 * 0 + s * s) (if -s > s then -s else s) := by
  split
  · rename_i h
    refine ⟨by omega, by rw [Int.neg_mul_neg]; omega, ?_⟩
    have : (-s + 1) * (-s + 1) = s * s + 2 * (-s) + 1 := by
      rw [Int.add_mul, Int.mul_add, Int.mul_add, Int.neg_mul_neg]; omega
    omega
  · rename_i h
    refine ⟨by omega, by omega, ?_⟩
    have : (s + 1) * (s + 1) = s * s + 2 * s + 1 := by
      rw [Int.add_mul, Int.mul_add, Int.mul_add]; omega
    omega
theorem len_abs {a b s n : Int} (h : lenO (moveM a b) (0, s) = some n) : n = if -s > s then -s else s := by
  have hI := lenO_is h
  unfold IsLen at hI
  split at hI
  · cases hI
  · rename_i q hq
    obtain ⟨r, h1, h2⟩ := hI
    have hq : q = (0, s) := by
      have := apply_move (a := 0) (b := 0) (show applyP (moveM 0 0) (0, s) = some q from hq)
      rw [this]
      simp
    rw [hq] at h1
    split at h2
    · cases h2
    · cases h2
      exact isRoot_eq h1 (root_abs s)
/-- The state without extra spacing. -/
def bare (g : GT) : GT := spaced g 0 0
theorem sum_bare {w : Int} (h : inW w = true) : sumO [w, 0] = some w ∧ sumO [w, 0, 0] = some w := by
  unfold sumO
  constructor
  · rw [if_pos ⟨by simp [h]; decide, by simpa [Pat.ps] using h⟩]
    simp [Pat.ps]
  · rw [if_pos ⟨by simp [h]; decide, by simpa [Pat.ps] using h⟩]
    simp [Pat.ps]
theorem bare_tx (g : GT) : tchar (bare g) = 0 ∧ tword (bare g) = 0 ∧ tscale (bare g) = tscale g ∧ tsize (bare g) = tsize g ∧ trise (bare g) = trise g ∧ tlead (bare g) = tlead g ∧ ctm (bare g) = ctm g := ⟨rfl, rfl, rfl, rfl, rfl, rfl, rfl⟩
theorem bare_use {g : GT} (h : useG g = true) : useG (bare g) = true := by
  unfold useG texts at h ⊢
  obtain ⟨h1, h2, h3, h4, h5, h6, h7⟩ := bare_tx g
  rw [h1, h2, h3, h4, h5, h6, h7]
  simp only [Bool.and_eq_true, List.all_cons, List.all_nil] at h ⊢
  exact ⟨h.1, by decide, by decide, h.2.2.2⟩
theorem step_bare {g : GT} {f : Font} {c w en : Int} (hg : useG g = true) (hk : chkF f = 0) (hw : widthP g f c = some w) (hs : scaledP g w = some en) : stepF (bare g) f c = (en, 0) := by
  unfold stepF
  rw [if_neg (by rw [bare_use hg]; decide), if_neg (by simp [hk])]
  have e1 : widthP (bare g) f c = some w := hw
  have hin := mulO_in (show mulO (tsize g) (10 * widthF f c) = some w from hw)
  have e2 : stepP (bare g) f c w = some en := by
    unfold stepP stepL
    have hs2 : scaledP (bare g) w = some en := hs
    rw [(bare_tx g).1, (bare_tx g).2.1]
    split
    · show (sumO [w, 0, 0]).bind _ = _
      rw [(sum_bare hin).2]
      exact hs2
    · show (sumO [w, 0]).bind _ = _
      rw [(sum_bare hin).1]
      exact hs2
  rw [e1]
  show resI (stepP (bare g) f c w) = _
  rw [e2]
  rfl
/-- A glyph under moves. -/
theorem sign_move {g : GT} {f : Font} {a c : Int} {gl : GlT} {m' : Mx} (hc : ctm g = one) (hg : useG g = true) (hk : chkF f = 0) (h : signP g f (moveM a 0) c = some (gl, m')) : ∃ n en, stepF g f c = (n, 0) ∧ stepF (bare g) f c = (en, 0) ∧ m' = moveM (n + a) 0 ∧
    gl = (c, ⟨(sayF f c).toArray⟩, a, trise g, en + a, trise g, if -(tsize g) > tsize g then -(tsize g) else tsize g, tfont g, tmode g) ∧ inW en = true ∧ inW (n + a) = true := by
  unfold signP at h
  obtain ⟨all, h1, h⟩ := Option.bind_eq_some_iff.1 h
  obtain ⟨wd, h2, h⟩ := Option.bind_eq_some_iff.1 h
  obtain ⟨en, h3, h⟩ := Option.bind_eq_some_iff.1 h
  obtain ⟨p, h4, h⟩ := Option.bind_eq_some_iff.1 h
  obtain ⟨b, h5, h⟩ := Option.bind_eq_some_iff.1 h
  obtain ⟨hi, h6, h⟩ := Option.bind_eq_some_iff.1 h
  obtain ⟨st, h7, h⟩ := Option.bind_eq_some_iff.1 h
  obtain ⟨m2, h8, h⟩ := Option.bind_eq_some_iff.1 h
  cases h
  rw [hc] at h1
  have ha := mul_move (c := 0) (d := 0) (show mulP (moveM a 0) (moveM 0 0) = some all from h1)
  rw [Int.add_zero, Int.add_zero] at ha
  subst ha
  have e4 := apply_move h4
  have e5 := apply_move h5
  have e6 := len_abs h6
  have e8 := mul_move h8
  have hok := mulP_ok h8
  rw [e8] at hok
  have hin : inW (st + a) = true := (all_iff _).1 hok 4 (by show 4 < 6; decide)
  refine ⟨st, en, ?_, step_bare hg hk h2 h3, by rw [e8, Int.add_zero], ?_, scaledP_in h3, hin⟩
  · unfold stepF
    rw [if_neg (by simp [hg]), if_neg (by simp [hk]), h2]
    show resI (stepP g f c wd) = _
    rw [h7]
    rfl
  · rw [e4, e5, e6]
    simp
end Ma
end Go.Proofs.YtcblpehnkogfdaaGreatDoor
/- Text machines: the law on places. Conditions: sizes, the laid tables. -/
namespace Go.Proofs.YtcblpehnkogfdaaGreatDoor
namespace Ma
open Sh Mat Fix Fo Sw Opr Pat
set_option linter.unusedVariables false
set_option linter.unusedSimpArgs false
set_option maxRecDepth 8000
set_option maxHeartbeats 4000000
def oned (g : GT) : GT := (one.1, one.2.1, one.2.2.1, one.2.2.2.1, one.2.2.2.2.1, one.2.2.2.2.2, g.2.2.2.2.2.2)
theorem grl_one (g : GT) : ((((((grl g).set 0 (.int .i64 one.1)).set 1 (.int .i64 one.2.1)).set 2 (.int .i64 one.2.2.1)).set 3 (.int .i64 one.2.2.2.1)).set 4 (.int .i64 one.2.2.2.2.1)).set 5 (.int .i64 one.2.2.2.2.2) = grl (oned g) := by simp only [grl, oned, List.set]
theorem grl_bare (g : GT) : ((grl g).set 22 (.int .i64 0)).set 23 (.int .i64 0) = grl (bare g) := by simp only [grl, bare, spaced, tx, List.set]
attribute [local irreducible] Ld Sh.St Nw Nn Lt LdS
theorem c_small0 (x : FT) (w : World) : C9 ⟨none, 0, 0⟩ x w fun r w1 => Ext (fun _ => False) w w1 := by
  refine T9 _ _ _ _ ?_
  unfold S9
  refine Nw.of ?_
  have H := fo_blk w x
  have hE := H.ext
  generalize w.alloc (.cells (Sig.cells LiA34 x).toArray 35) = wd at *
  refine Sh.Br.f (by decide) (H.ld 0 rfl (x := x.2.2.2.1) rfl (Br.dec (fun _ => hE) fun _ => H.ld 0 rfl (x := x.2.2.2.2.2.2) rfl (Br.dec (fun _ => hE) fun _ => H.ld 0 rfl (x := x.2.2.2.2.2.1) rfl (Br.dec (fun _ => hE) fun _ => ?_))))
  refine ⟨fun n st w1 => st = 0 ∧ Ext (fun _ => False) w w1, 0, ⟨rfl, hE⟩, ?_⟩
  rintro n st w1 ⟨rfl, e1⟩
  unfold S9L3
  exact Sh.Br.f (by decide) e1
section
variable {w vw4 w1 : World} {g : GT} {x : FT} {f : Font} {s : ByteArray}
theorem p_J1 (hT : TB w) (h : FoV w x f) (hc : ctm g = one) (H : Hn w w1 [(w.heap.size, grl g, TG), (vw4.heap.size, fol x, TF)]) {r : Slc} {L : List GlT} {m' : Mx} {e : Int} {b : Nat} (hs : stringF g one f s = (L, m', e)) (hv : VRow w1 r 9 (L.flatMap glc)) (hb : Blk w1 b (mrow m').toArray TM) :
    S6J1 w vw4 (fun r w1 => r = true ∧ Ext (fun _ => False) w w1) (r, ⟨b, 0, none⟩, e) w1 := by
  unfold S6J1
  dsimp only
  have n1 := VRow.count glc_len (by decide) hv
  refine Br.ne (fun h0 => ⟨by rw [n1, string_no hs h0]; rfl, H.ext⟩) fun h0 => ?_
  subst h0
  obtain ⟨hask, hshow⟩ := string_yes hs
  obtain ⟨hg, hm, hk, he, hcl⟩ := ask_parts hask
  have hll := showP_len _ hshow
  have hin := codes_in f.wide s
  generalize (codesF f.wide s).1 = cs at *
  refine ⟨fun n st w2 => ∃ (i : Nat) (a : Int), st = (a, (i : Int)) ∧ i ≤ L.length ∧ n = L.length - i ∧ inW a = true ∧ showP g f (cs.drop i) (moveM a 0) = some (L.drop i, m') ∧ Ext (fun _ => False) w1 w2, L.length, ⟨0, 0, rfl, Nat.zero_le _, rfl, by decide, hshow, Ext.refl _ _⟩, ?_⟩
  rintro n st w2 ⟨i, a, rfl, hi, rfl, hia, hsh, e2⟩
  unfold S6L1
  dsimp only
  rw [n1]
  have H := H.keep e2
  refine Br.dec (fun q => ⟨by omega, by omega, ?_⟩) fun q => ?_
  · have hiL : i < L.length := by omega
    have hil : i < cs.length := by omega
    have hdr : cs.drop i = cs[i] :: cs.drop (i + 1) := List.drop_eq_getElem_cons hil
    have hdL : L.drop i = L[i] :: L.drop (i + 1) := List.drop_eq_getElem_cons hiL
    rw [hdr, hdL] at hsh
    unfold showP at hsh
    obtain ⟨⟨gl, mn⟩, hsg, hsh⟩ := Option.bind_eq_some_iff.1 hsh
    obtain ⟨⟨Lr, me⟩, hsr, hsh⟩ := Option.bind_eq_some_iff.1 hsh
    have hcons := Prod.mk.inj (Option.some.inj hsh)
    obtain ⟨hgl, hLr⟩ := List.cons.inj hcons.1
    have hme : me = m' := hcons.2
    have hgl : gl = L[i] := hgl
    have hLr : Lr = L.drop (i + 1) := hLr
    obtain ⟨nn, en, f1, f2, f3, f4, f5, f6⟩ := sign_move hc hg hk hsg
    rw [hLr, hme] at hsr
    have hsr : showP g f (cs.drop (i + 1)) mn = some (L.drop (i + 1), m') := hsr
    rw [f3] at hsr
    rw [hgl] at f4
    have hci := hin _ (List.getElem_mem hil)
    obtain ⟨ad, had, hac⟩ := at_glyph (hv.keep e2) hiL
    rw [had, Int.toNat_natCast]
    refine Nn.of (LdT.any LiA69 0 L[i] _ (fun j v hj => by rw [Nat.zero_add]; exact hac j v hj) ?_)
    rw [f4]
    refine (Hn.start w2).nw fun w108 K => K.stT (i := 0) (ts := LiA69) (pre := []) (post := []) (zs := [.int .i64 0, .string ⟨#[]⟩, .int .i64 0, .int .i64 0, .int .i64 0, .int .i64 0, .int .i64 0, .string ⟨#[]⟩, .int .i64 0]) rfl rfl rfl fun w109 K => ?_
    have H1 := H.keep K.ext
    refine H1.ldT (i := 0) (ts := LiA30) (pre := []) (post := []) (x := g) rfl rfl (H1.ldT (i := 1) (ts := LiA34) (pre := []) (post := []) (x := x) rfl rfl ?_)
    refine K.ld 0 rfl (x := cs[i]) rfl ?_
    refine (c_stepW (g := g) (hT.keep H1.ext) (h.keep H1.ext) (code := cs[i]) (by unfold I64; omega)).mono ?_
    rintro r113 r114 w115 ⟨hr, e115⟩
    rw [f1] at hr
    obtain ⟨rfl, rfl⟩ := Prod.mk.inj hr
    have H2 := H1.keep e115
    have K := K.keep e115
    refine H2.ldT (i := 0) (ts := LiA30) (pre := []) (post := []) (x := g) rfl rfl ?_
    refine K.nw fun w117 K => K.stT (i := 1) (ts := LiA30) (pre := []) (post := []) (x := g) (zs := [.int .i64 0, .int .i64 0, .int .i64 0, .int .i64 0, .int .i64 0, .int .i64 0, .int .i64 0, .int .i64 0, .int .i64 0, .int .i64 0, Slc.v ⟨none, 0, 0⟩, .int .i64 0, .int .i64 0, .int .i64 0, .int .i64 0, .int .i64 0, .int .i64 0, .int .i64 0, .int .i64 0, .int .i64 0, .int .i64 0, .int .i64 0, .int .i64 0, .int .i64 0, .int .i64 0, .int .i64 0, .int .i64 0, .int .i64 0, .string ⟨#[]⟩, .int .i64 0]) rfl rfl rfl fun w118 K => ?_
    refine K.st 1 (o := 22) rfl (by show 22 < 30; decide) fun w119 K => K.st 1 (o := 23) rfl (by show 23 < 30; decide) fun w120 K => ?_
    have K : Hn w2 w120 [(w2.heap.size, Sig.cells LiA69 (cs[i], ⟨(sayF f cs[i]).toArray⟩, a, trise g, en + a, trise g, if -(tsize g) > tsize g then -(tsize g) else tsize g, tfont g, tmode g), 70), (w115.heap.size, grl (bare g), TG)] := by rw [← grl_bare]; exact K
    refine K.ldT (i := 1) (ts := LiA30) (pre := []) (post := []) (x := bare g) rfl rfl ?_
    have H3 := H.keep K.ext
    refine H3.ldT (i := 1) (ts := LiA34) (pre := []) (post := []) (x := x) rfl rfl (K.ld 0 rfl (x := cs[i]) rfl ?_)
    refine (c_stepW (g := bare g) (hT.keep H3.ext) (h.keep H3.ext) (code := cs[i]) (by unfold I64; omega)).mono ?_
    rintro r124 r125 w126 ⟨hr, e126⟩
    rw [f2] at hr
    obtain ⟨rfl, rfl⟩ := Prod.mk.inj hr
    have K := K.keep e126
    have H4 := H.keep K.ext
    have ia := inW_spec.1 hia
    have ie := inW_spec.1 f5
    have is := inW_spec.1 f6
    have iz := inW_spec.1 (useG_in hg).2.2.2.2.1
    refine Br.ne (fun q => absurd rfl q) fun _ => Br.ne (fun q => absurd rfl q) fun _ => ?_
    refine K.ld 0 rfl (x := a) rfl (K.ld 0 rfl (x := trise g) rfl (H4.ld 0 rfl (x := trise g) rfl (Sh.Br.f (by simp) ?_)))
    refine K.ld 0 rfl (x := r124 + a) rfl (K.ld 0 rfl (x := trise g) rfl (H4.ld 0 rfl (x := trise g) rfl (Sh.Br.f (by rw [i64_id (n := a + r124) (by omega), Int.add_comm]; simp) ?_)))
    refine K.ld 0 rfl (x := if -(tsize g) > tsize g then -(tsize g) else tsize g) rfl (H4.ld 0 rfl (x := tsize g) rfl (H4.ld 0 rfl (x := tsize g) rfl ?_))
    rw [i64_id (n := 0 - tsize g) (by omega), Int.zero_sub]
    refine Lt.of (Sh.Br.f (by simp) ?_)
    refine K.ld 0 rfl (x := tfont g) rfl (H4.ld 0 rfl (x := tfont g) rfl (Sh.Br.f (by simp) ?_))
    refine K.ld 0 rfl (x := tmode g) rfl (H4.ld 0 rfl (x := tmode g) rfl (Br.ne (fun q => absurd rfl q) fun _ => ?_))
    exact ⟨L.length - (i + 1), by omega, i + 1, r113 + a, by rw [i64_id (n := a + r113) (by omega), i64_id (by omega), Int.add_comm a]; rfl, by omega, rfl, f6, hsr, e2.tr K.ext⟩
  · have : i = L.length := by omega
    subst this
    rw [List.drop_of_length_le (by omega)] at hsh
    have hmi : moveM a 0 = m' := (Prod.mk.inj (Option.some.inj hsh)).2
    subst hmi
    have hbD : ∀ {j : Nat} {v : Value}, (mrow (moveM a 0))[j]? = some v → w2.drew.cell? ⟨b, j, none⟩ = some v := fun {j v} hj => by
      rw [(e2.drew.blk hb id).cell, List.getElem?_toArray]
      exact hj
    refine ⟨Ext (fun _ => False) w2.drew, Ext.refl _ _, ?_⟩
    refine ldS_ext (x := (moveM a 0).1) (hbD rfl) (ldS_ext (x := (moveM a 0).2.1) (hbD rfl) (ldS_ext (x := (moveM a 0).2.2.1) (hbD rfl) (ldS_ext (x := (moveM a 0).2.2.2.1) (hbD rfl) (ldS_ext (x := (moveM a 0).2.2.2.2.1) (hbD rfl) (ldS_ext (x := (moveM a 0).2.2.2.2.2) (hbD rfl) ?_)))))
    refine (Mat.r_move a 0 _).mono ?_
    rintro r148 w149 ⟨rfl, e149⟩
    exact ⟨e149, by simp, H.drew.ext.tr e149⟩
end
end Ma
end Go.Proofs.YtcblpehnkogfdaaGreatDoor

/- Text machines: the law on places, whole. Conditions: sizes, the laid tables. -/
namespace Go.Proofs.YtcblpehnkogfdaaGreatDoor
namespace Ma
open Sh Mat Fix Fo Sw Opr Pat
set_option linter.unusedVariables false
set_option linter.unusedSimpArgs false
set_option maxRecDepth 8000
set_option maxHeartbeats 4000000
attribute [local irreducible] Ld Sh.St Nw Nn Lt LdS
section
variable {w vw4 w1 : World} {g : GT} {x : FT} {f : Font} {s : ByteArray}
theorem p_J2 (hT : TB w) (h : FoV w x f) (hs : s.size ≤ 1048576) (H : Hn w w1 [(w.heap.size, grl g, TG), (vw4.heap.size, fol x, TF)]) :
    S6J2 w s vw4 (fun r w1 => r = true ∧ Ext (fun _ => False) w w1) () w1 := by
  unfold S6J2
  refine (Mat.r_one _).mono ?_
  rintro r16 w17 ⟨rfl, e17⟩
  have H := H.keep e17
  refine H.st 0 (o := 0) rfl (by show 0 < 30; decide) fun w18 H => H.st 0 (o := 1) rfl (by show 1 < 30; decide) fun w19 H => H.st 0 (o := 2) rfl (by show 2 < 30; decide) fun w20 H => H.st 0 (o := 3) rfl (by show 3 < 30; decide) fun w21 H => H.st 0 (o := 4) rfl (by show 4 < 30; decide) fun w22 H => H.st 0 (o := 5) rfl (by show 5 < 30; decide) fun w23 H => ?_
  have H : Hn w w23 [(w.heap.size, grl (oned g), TG), (vw4.heap.size, fol x, TF)] := by rw [← grl_one]; exact H
  have HD := H.drew
  refine ⟨fun st w' => ∃ r b e L m', st = (r, ⟨b, 0, none⟩, e) ∧ Ext (fun _ => False) w23.drew w' ∧ stringF (oned g) one f s = (L, m', e) ∧ VRow w' r 9 (L.flatMap glc) ∧ Blk w' b (mrow m').toArray TM, ?_, ?_⟩
  · rintro _ w' ⟨r, b, e, L, m', rfl, e', hF, hv, hb⟩
    exact p_J1 hT h rfl (HD.keep e') hF hv hb
  refine ⟨Ext (fun _ => False) w23.drew, Ext.refl _ _, ?_⟩
  refine LdST.blk (ts := LiA30) (pre := []) (post := []) (t := TG) (x := oned g) (fun w' hw => hw.blk (HD.get 0 rfl) id) rfl ?_
  refine LdST.blk (ts := LiA34) (pre := []) (post := []) (t := TF) (x := x) (fun w' hw => hw.blk (HD.get 1 rfl) id) rfl ?_
  refine ⟨(Mat.r_one _).mono ?_, (Hn.start w23.drew).nw fun w178 Q => ⟨Q.ext, (Mat.r_one _).mono ?_⟩⟩
  · rintro r154 w155 ⟨rfl, e155⟩
    refine ⟨e155, ?_, (Hn.start w155).nw fun w167 Q => ⟨e155.tr Q.ext, ?_⟩⟩
    · refine (c_string (g := oned g) (hT.keep (HD.keep e155).ext) (h.keep (HD.keep e155).ext) one hs).mono ?_
      rintro r m2 e w2 ⟨e2, L, hL, hv, ho⟩
      exact mk_mx w2 m2 fun w3 e3 hb3 => ⟨r, _, e, L, m2, rfl, (e155.tr e2).tr e3, hL, hv.keep e3, hb3⟩
    · have EQ := e155.tr Q.ext
      refine (c_string (g := oned g) (hT.keep (HD.keep EQ).ext) (h.keep (HD.keep EQ).ext) one hs).mono ?_
      rintro r m2 e w2 ⟨e2, L, hL, hv, ho⟩
      have Q2 := Q.keep e2
      refine st_mx (m := noM) (Q2.get 0 rfl) m2 fun w3 e3 hb3 => ⟨r, _, e, L, m2, rfl, e155.tr (ext_new Q2.ext e3 fun j hj => Nat.le_of_eq hj.symm), hL, hv.keepF e3 fun j hj e => ?_, hb3⟩
      have h1 := ho j hj
      have h2 := Q.lt 0 rfl
      omega
  · rintro r179 w180 ⟨rfl, e180⟩
    have Q1 := Q.keep e180
    refine ⟨Q1.ext, (c_string (g := oned g) (hT.keep (HD.keep Q1.ext).ext) (h.keep (HD.keep Q1.ext).ext) one hs).mono ?_⟩
    rintro r m2 e w2 ⟨e2, L, hL, hv, ho⟩
    have Q2 := Q1.keep e2
    refine st_mx (m := noM) (Q2.get 0 rfl) m2 fun w3 e3 hb3 => ⟨r, _, e, L, m2, rfl, ext_new Q2.ext e3 fun j hj => Nat.le_of_eq hj.symm, hL, hv.keepF e3 fun j hj e => ?_, hb3⟩
    have h1 := ho j hj
    have h2 := Q1.lt 0 rfl
    omega
end
theorem c_places {W : World} {x : FT} {f : Font} {s : ByteArray} (hT : TB W) (g : GT) (h : FoV W x f) (hs : s.size ≤ 1048576) : C6 g x s W fun r w1 => r = true ∧ Ext (fun _ => False) W w1 := by
  refine T6 _ _ _ _ _ ?_
  unfold S6
  refine Nw.of ?_
  have HG := gr_blk W g
  have H := Hn.push ((Hn.start W).keep HG.ext) (show Blk _ W.heap.size (grl g).toArray TG from HG.get 0 rfl) (Nat.le_refl _) (by simp)
  generalize W.alloc (.cells (Sig.cells LiA30 g).toArray TG) = vw4 at *
  refine Nw.of ?_
  have HF := fo_blk vw4 x
  have H := Hn.push (H.keep HF.ext) (show Blk _ vw4.heap.size (fol x).toArray TF from HF.get 0 rfl) H.size fun hm => Nat.lt_irrefl _ (H.all_lt hm)
  generalize vw4.alloc (.cells (Sig.cells LiA34 x).toArray TF) = w5 at *
  refine (c_lives (hT.keep H.ext)).mono ?_
  rintro r8 w9 ⟨rfl, e9⟩
  have H := H.keep e9
  refine Sh.Br.f rfl ⟨fun _ w' => Hn W w' [(W.heap.size, grl g, TG), (vw4.heap.size, fol x, TF)], fun _ w' H' => p_J2 hT h hs H', ?_⟩
  refine H.ldT (i := 1) (ts := LiA34) (pre := []) (post := []) (x := x) rfl rfl ?_
  refine (c_small0 x _).mono fun r193 w194 e194 => ?_
  have H := H.keep e194
  cases r193 with
  | false => exact Sh.Br.t rfl ⟨rfl, H.ext⟩
  | true =>
    refine Sh.Br.f rfl (Br.dec (fun _ => ⟨rfl, H.ext⟩) fun _ => H.ld 1 rfl (x := x.2.1) rfl ?_)
    cases x.2.1 with
    | false => exact Sh.Br.f rfl H
    | true => exact Sh.Br.t rfl (Br.ne (fun _ => ⟨rfl, H.ext⟩) fun _ => H)
end Ma
namespace Sw
open Sh Mat Fix Fo
open Go.ChangeShapes Go.WideShapes Go.ChangeAt Go.RowKit
open Go.ChangeMaps (open_string shut_string)
set_option maxRecDepth 100000
theorem of_laidP {W : World} (h : laidMetH Tryz.prog Rows.showPlacesUptoRow.laid W) : TB W := by
  rw [MakeChecks.laidMetH_plain _ _ _ (by kernel_rfl)] at h
  refine of_reads h ?_ ?_ ?_
  all_goals first | exact .head _ | exact .tail _ (.head _) | exact .tail _ (.tail _ (.head _)) | exact .tail _ (.tail _ (.tail _ (.head _)))
theorem str_arg {H : Type} {enc : TypeId × Value → H} {W : World} {spare : Nat → Bool} {held : Bool} {v : Value} {d : DataW H} {ps : List MemPlace} {rr : Reach} {b0 : Nat}
    (h0 : Value.okWide Tryz.prog W rr b0 9 v) (h : DataW.Trod enc Tryz.prog W 0 spare held 9 v d ps) (hb : Rows.uptoBulk d ≤ 1048576) : ∃ s : ByteArray, v = .string s ∧ s.size ≤ 1048576 := by
  obtain ⟨n, hn⟩ := rdB_Trod (m := 8) (by kernel_rfl) h
  obtain ⟨s, rfl, _⟩ := open_string undStr h0 h
  obtain ⟨t, ht, _, hs⟩ := rdB_string undStr hn
  obtain rfl : s = t := by simpa [Value.cells] using ht
  exact ⟨s, rfl, by omega⟩
end Sw
end Go.Proofs.YtcblpehnkogfdaaGreatDoor
