/- Shown strings: the law on composed strings, whole. Conditions: sizes, the laid tables. -/
import Derived.Test.YtcblpehnkogfdaaDoorSwH
namespace Go.Proofs.YtcblpehnkogfdaaDoor
namespace Sw
open Sh Mat Fix Fo
set_option linter.unusedVariables false
set_option linter.unusedSimpArgs false
set_option maxRecDepth 4000
set_option maxHeartbeats 4000000
attribute [local irreducible] Ld St Nw Nn Lt LdS
def firstG (m : Mx) : GT := (m.1, m.2.1, m.2.2.1, m.2.2.2.1, m.2.2.2.2.1, m.2.2.2.2.2, 10000, 0, 0, 100000, ⟨none, 0, 0⟩, 0, 0, 0, 0, 0, 0, 0, 0, 0, 0, 0, 0, 0, 1000000, 0, 0, 0, ⟨#[]⟩, 0)
theorem c_first (m : Mx) (w : World) : C4 m w fun r w1 => r = firstG m ∧ Ext (fun _ => False) w w1 := by
  refine T4 _ _ _ ?_
  unfold S4
  refine (Hn.start w).nw fun w2 H => H.nw fun w3 H => ?_
  iterate 6 refine H.ld 0 rfl rfl ?_
  refine H.stT (i := 1) (ts := LiA29) (pre := []) (post := []) (x := firstG m) (zs := [.int .i64 0, .int .i64 0, .int .i64 0, .int .i64 0, .int .i64 0, .int .i64 0, .int .i64 0, .int .i64 0, .int .i64 0, .int .i64 0, Slc.v ⟨none, 0, 0⟩, .int .i64 0, .int .i64 0, .int .i64 0, .int .i64 0, .int .i64 0, .int .i64 0, .int .i64 0, .int .i64 0, .int .i64 0, .int .i64 0, .int .i64 0, .int .i64 0, .int .i64 0, .int .i64 0, .int .i64 0, .int .i64 0, .int .i64 0, .string ⟨#[]⟩, .int .i64 0]) rfl rfl rfl fun w4 H => ?_
  exact H.ldT (i := 1) (ts := LiA29) (pre := []) (post := []) (x := firstG m) rfl rfl ⟨rfl, H.ext⟩
def px (b : Nat) : FT := (⟨#[120]⟩, false, 65, ⟨some ⟨b, 0, none⟩, 1, 1⟩, 0, ⟨none, 0, 0⟩, ⟨none, 0, 0⟩)
theorem g0_set : (grl (firstG one)).set 26 (.int .i64 100000) = grl g0 := by
  simp only [grl, firstG, one, g0, List.set]
section
variable {w vw6 vw7 : World} {g : GT} {x : FT} {f : Font} {m : Mx} {s : ByteArray} {cut : Int}
/-- Behind the first string. -/
theorem w_J5 (hT : TB w) (h : FoV w x f) (hs : s.size ≤ 1048576) {w1 : World} {rf : Slc} {b : Nat} (H : Hn w w1 [(w.heap.size, grl g, TG), (vw6.heap.size, mrow m, TM), (vw7.heap.size, fol x, TF)])
    (hv : VRow w1 rf 9 ([((65, ⟨#[65]⟩, 5, 6, 50005, 6, 100000, ⟨#[]⟩, 0) : GlT)].flatMap glc)) (hb : Blk w1 b (mrow (moveM 50005 6)).toArray TM) :
    S3J5 w s cut vw6 vw7 (fun r w1 => r = true ∧ Ext (fun _ => False) w w1) (rf, ⟨b, 0, none⟩, 0) w1 := by
  unfold S3J5
  dsimp only
  have n1 := VRow.count glc_len (by decide) hv
  rw [n1]
  obtain ⟨a, ha, hac⟩ := ld_glyph hv (i := 0) (by decide)
  rw [ha]
  have hac : ∀ j v, (glc ((65, ⟨#[65]⟩, 5, 6, 50005, 6, 100000, ⟨#[]⟩, 0) : GlT))[j]? = some v → w1.cell? ((a.add 0).add j) = some v := fun j v hj => by
    have := hac j v hj
    rw [Nat.zero_mul] at this
    exact this
  refine Br.ne (fun h0 => absurd rfl h0) fun _ => Br.ne (fun h0 => absurd rfl h0) fun _ => ⟨by decide, by decide, Nn.of ?_⟩
  refine Ld.mk (x := 5) (hac 2 _ rfl) (Ld.mk (x := 6) (by rw [add_add']; exact hac 3 _ rfl) (Br.f (by decide) ⟨by decide, by decide, Nn.of ?_⟩))
  refine Ld.mk (x := 50005) (hac 4 _ rfl) (Ld.mk (x := 6) (by rw [add_add']; exact hac 5 _ rfl) (Br.f (by decide) ?_))
  refine Ld.of hb (x := 50005) rfl (Br.ne (fun h0 => absurd rfl h0) fun _ => ⟨by decide, by decide, Nn.of ?_⟩)
  refine Ld.mk (x := ⟨#[65]⟩) (hac 1 _ rfl) (Br.f (by simp) ⟨by decide, by decide, Nn.of ?_⟩)
  refine Ld.mk (x := 100000) (hac 6 _ rfl) (Br.ne (fun h0 => absurd rfl h0) fun _ => ?_)
  refine Br.dec (fun _ => ⟨rfl, H.ext⟩) fun _ => ?_
  refine H.ld 2 rfl (x := x.2.2.2.2.2.2) rfl (Br.dec (fun _ => ⟨rfl, H.ext⟩) fun _ => ?_)
  refine H.ld 2 rfl (x := x.2.2.2.1) rfl (Br.dec (fun _ => ⟨rfl, H.ext⟩) fun _ => ?_)
  refine H.ldT (i := 0) (ts := LiA29) (pre := []) (post := []) (x := g) rfl rfl ?_
  refine H.ld 1 rfl (x := m.1) rfl (H.ld 1 rfl (x := m.2.1) rfl (H.ld 1 rfl (x := m.2.2.1) rfl (H.ld 1 rfl (x := m.2.2.2.1) rfl (H.ld 1 rfl (x := m.2.2.2.2.1) rfl (H.ld 1 rfl (x := m.2.2.2.2.2) rfl ?_)))))
  refine H.ldT (i := 2) (ts := LiA33) (pre := []) (post := []) (x := x) rfl rfl ?_
  refine (c_string (g := g) (hT.keep H.ext) (h.keep H.ext) m hs).mono ?_
  rintro r95 m' e vw98 ⟨e98, L, hL, hr, ho⟩
  have HH := H.keep e98
  refine mk_mx vw98 m' fun w3 e3 hb3 => ?_
  have H3 := Hn.push (HH.keep e3) hb3 HH.size fun hm => Nat.lt_irrefl _ (HH.all_lt hm)
  have hr3 := hr.keep e3
  refine H3.ldT (i := 2) (ts := LiA33) (pre := []) (post := []) (x := x) rfl rfl ?_
  refine (c_codes (h.keep H3.ext) hs).mono ?_
  rintro r107 e108 vw109 ⟨rfl, hc, e109, _⟩
  have H9 := H3.keep e109
  have hr9 := hr3.keep e109
  have n95 := VRow.count glc_len (by decide) hr9
  refine Br.ne (fun h0 => ?_) fun h0 => ?_
  · refine ⟨?_, H9.ext⟩
    rw [n95, string_no hL h0]
    rfl
  subst h0
  obtain ⟨hask, hshow⟩ := string_yes hL
  obtain ⟨hg, hm, hk, he, hcl⟩ := ask_parts hask
  refine Br.ne (fun h0 => absurd he h0) fun _ => ?_
  have n107 := VRow.count icell_len (by decide) hc
  rw [n107, n95, showP_len _ hshow]
  refine Br.ne (fun h0 => absurd rfl h0) fun _ => ?_
  refine H9.ld 1 rfl (x := m.1) rfl (H9.ld 1 rfl (x := m.2.1) rfl (H9.ld 1 rfl (x := m.2.2.1) rfl (H9.ld 1 rfl (x := m.2.2.2.1) rfl (H9.ld 1 rfl (x := m.2.2.2.2.1) rfl (H9.ld 1 rfl (x := m.2.2.2.2.2) rfl ?_)))))
  refine mk_mx vw109 m fun w4 e4 hb4 => ?_
  exact w_L2 hT h hs H9 hr9 hc hL rfl (Hn.push ((Hn.start vw109).keep e4) hb4 (Nat.le_refl _) (by simp))
/-- The law. -/
theorem c_composed {W : World} (hT : TB W) (g : GT) (m : Mx) (h : FoV W x f) (hs : s.size ≤ 1048576) (cut : Int) : C3 g m x s cut W fun r w1 => r = true ∧ Ext (fun _ => False) W w1 := by
  refine T3 _ _ _ _ _ _ _ ?_
  unfold S3
  refine Nw.of ?_
  have H := gr_blk W g
  generalize W.alloc (.cells (Sig.cells LiA29 g).toArray 30) = vw6 at *
  refine H.nw fun vw7 H => H.nw fun w8 H => ?_
  have HB : Hn W w8 [(W.heap.size, grl g, TG), (vw6.heap.size, mrow m, TM), (vw7.heap.size, fol x, TF)] := H
  refine (Hn.start w8).nw fun w9 H => H.nw fun w10 H => ?_
  refine H.stT (i := 1) (ts := LiA33) (pre := []) (post := []) (zs := [.string ⟨#[]⟩, .bool false, .int .i64 0, Slc.v ⟨none, 0, 0⟩, .int .i64 0, Slc.v ⟨none, 0, 0⟩, Slc.v ⟨none, 0, 0⟩]) rfl rfl rfl fun w11 H => ?_
  refine (c_one _).mono ?_
  rintro o w13 ⟨rfl, e13⟩
  refine (c_first one _).mono ?_
  rintro gf w15 ⟨rfl, e15⟩
  have H := (H.keep e13).keep e15
  refine H.nw fun w16 H => ?_
  refine H.stT (i := 2) (ts := LiA29) (pre := []) (post := []) (x := firstG one) (zs := [.int .i64 0, .int .i64 0, .int .i64 0, .int .i64 0, .int .i64 0, .int .i64 0, .int .i64 0, .int .i64 0, .int .i64 0, .int .i64 0, Slc.v ⟨none, 0, 0⟩, .int .i64 0, .int .i64 0, .int .i64 0, .int .i64 0, .int .i64 0, .int .i64 0, .int .i64 0, .int .i64 0, .int .i64 0, .int .i64 0, .int .i64 0, .int .i64 0, .int .i64 0, .int .i64 0, .int .i64 0, .int .i64 0, .int .i64 0, .string ⟨#[]⟩, .int .i64 0]) rfl rfl rfl fun w17 H => ?_
  have H : Hn w8 w17 [(w8.heap.size, [.int .i64 500], 2), (w9.heap.size, fol (px w8.heap.size), TF), (w15.heap.size, grl (firstG one), TG)] := H
  refine H.st 2 (o := 26) rfl (by decide) fun w18 H => ?_
  have H : Hn w8 w18 [(w8.heap.size, [.int .i64 500], 2), (w9.heap.size, fol (px w8.heap.size), TF), (w15.heap.size, grl g0, TG)] := by rw [← g0_set]; exact H
  have HD := H.drew
  have HBD := HB.keep HD.ext
  have hx : FoV w18.drew (px w8.heap.size) plainF :=
    { name := rfl, wide := rfl, first := rfl, missing := rfl, widths := VRow.of (HD.get 0 rfl) (by decide), names := Row.view (Row.nil _ 9 _), maps := Row.view (Row.nil _ 9 _),
      ifirst := by unfold I64; decide, szn := by decide, lw := by decide, ln := by decide, lm := by decide, szs := fun s hs => (List.not_mem_nil hs).elim, szm := fun s hs => (List.not_mem_nil hs).elim }
  refine ⟨fun st w1 => ∃ rf b, st = (rf, ⟨b, 0, none⟩, 0) ∧ Ext (fun _ => False) w18.drew w1 ∧ VRow w1 rf 9 ([((65, ⟨#[65]⟩, 5, 6, 50005, 6, 100000, ⟨#[]⟩, 0) : GlT)].flatMap glc) ∧ Blk w1 b (mrow (moveM 50005 6)).toArray TM, ?_, ?_⟩
  · rintro _ w1 ⟨rf, b, rfl, e1, hv, hb⟩
    exact w_J5 hT h hs (HBD.keep e1) hv hb
  have str : ∀ {w1 : World}, Ext (fun _ => False) w18.drew w1 → C6 g0 (moveM 5 6) (px w8.heap.size) ⟨#[65]⟩ w1 fun r m2 e w2 =>
      m2 = moveM 50005 6 ∧ e = 0 ∧ Ext (fun _ => False) w1 w2 ∧ VRow w2 r 9 ([((65, ⟨#[65]⟩, 5, 6, 50005, 6, 100000, ⟨#[]⟩, 0) : GlT)].flatMap glc) ∧ ∀ j, r.own j → w1.heap.size ≤ j := fun {w1} e1 =>
    (c_string (g := g0) (hT.keep ((HBD.keep e1).ext)) (hx.keep e1) (moveM 5 6) (s := ⟨#[65]⟩) (by decide)).mono fun r m2 e w2 h2 => by
      obtain ⟨e2, L, hL, hv, ho⟩ := h2
      rw [first_string] at hL
      cases hL
      exact ⟨rfl, rfl, e2, hv, ho⟩
  refine ⟨Ext (fun _ => False) w18.drew, Ext.refl _ _, ?_⟩
  refine LdST.blk (ts := LiA29) (pre := []) (post := []) (t := TG) (x := g0) (fun w' hw => hw.blk (HD.get 2 rfl) id) rfl ?_
  refine LdST.blk (ts := LiA33) (pre := []) (post := []) (t := TF) (x := (px w8.heap.size)) (fun w' hw => hw.blk (HD.get 1 rfl) id) rfl ?_
  refine ⟨(c_move 5 6 _).mono ?_, (Hn.start w18.drew).nw fun w19 Q => ⟨Q.ext, (c_move 5 6 _).mono ?_⟩⟩
  · rintro mv w19 ⟨rfl, e19⟩
    refine ⟨e19, (str e19).mono ?_, (Hn.start w19).nw fun w20 Q => ⟨e19.tr Q.ext, (str (e19.tr Q.ext)).mono ?_⟩⟩
    · rintro r m2 e w20 ⟨rfl, rfl, e20, hv, ho⟩
      exact mk_mx w20 _ fun w21 e21 hb21 => ⟨r, _, rfl, (e19.tr e20).tr e21, hv.keep e21, hb21⟩
    · rintro r m2 e w21 ⟨rfl, rfl, e21, hv, ho⟩
      have Q2 := Q.keep e21
      refine st_mx (m := noM) (Q2.get 0 rfl) _ fun w22 e22 hb22 => ⟨r, _, rfl, e19.tr (ext_new Q2.ext e22 fun j hj => Nat.le_of_eq hj.symm), hv.keepF e22 fun j hj e => ?_, hb22⟩
      have h1 := ho j hj
      have h2 := Q.lt 0 rfl
      omega
  · rintro mv w20 ⟨rfl, e20⟩
    have Q1 := Q.keep e20
    refine ⟨Q1.ext, (str Q1.ext).mono ?_⟩
    rintro r m2 e w21 ⟨rfl, rfl, e21, hv, ho⟩
    have Q2 := Q1.keep e21
    refine st_mx (m := noM) (Q2.get 0 rfl) _ fun w22 e22 hb22 => ⟨r, _, rfl, ext_new Q2.ext e22 fun j hj => Nat.le_of_eq hj.symm, hv.keepF e22 fun j hj e => ?_, hb22⟩
    have h1 := ho j hj
    have h2 := Q1.lt 0 rfl
    omega
end
end Sw
end Go.Proofs.YtcblpehnkogfdaaDoor
