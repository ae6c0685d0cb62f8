/- Text machines: the sample of the laws walked, its parts. Conditions: the laid tables. -/
import Derived.Test.YtcblpehnkogfdaaGreatDoorLiA
import Derived.Test.YtcblpehnkogfdaaGreatDoorFnLs
import Derived.Test.YtcblpehnkogfdaaGreatDoorMatR
namespace Go.Proofs.YtcblpehnkogfdaaGreatDoor
namespace Ma
open Sh Mat Fix Fo Sw Opr Pat
set_option linter.unusedVariables false
set_option linter.unusedSimpArgs false
set_option maxRecDepth 8000
set_option maxHeartbeats 4000000
attribute [local irreducible] Ld Sh.St Nw Nn Lt LdS
theorem c_usually (w : World) : C26 w fun r w1 => r = usualG ∧ Ext (fun _ => False) w w1 := by
  refine T26 _ _ ?_
  unfold S26
  refine (Hn.start w).nw fun w1 H => ?_
  refine (Mat.r_one _).mono ?_
  rintro r w3 ⟨rfl, e3⟩
  refine (H.keep e3).stT (i := 0) (ts := LiA30) (pre := []) (post := []) (x := usualG) (zs := [.int .i64 0, .int .i64 0, .int .i64 0, .int .i64 0, .int .i64 0, .int .i64 0, .int .i64 0, .int .i64 0, .int .i64 0, .int .i64 0, Slc.v ⟨none, 0, 0⟩, .int .i64 0, .int .i64 0, .int .i64 0, .int .i64 0, .int .i64 0, .int .i64 0, .int .i64 0, .int .i64 0, .int .i64 0, .int .i64 0, .int .i64 0, .int .i64 0, .int .i64 0, .int .i64 0, .int .i64 0, .int .i64 0, .int .i64 0, .string ⟨#[]⟩, .int .i64 0]) rfl rfl rfl fun w4 H => ?_
  exact H.ldT (i := 0) (ts := LiA30) (pre := []) (post := []) (x := usualG) rfl rfl ⟨rfl, H.ext⟩
def pf (b : Nat) : FT := (⟨#[70]⟩, false, 97, ⟨some ⟨b, 0, none⟩, 1, 1⟩, 250, ⟨none, 0, 0⟩, ⟨none, 0, 0⟩)
theorem c_face (w : World) : C27 w fun r w1 => FoV w1 r faceF ∧ Ext (fun _ => False) w w1 := by
  refine T27 _ _ ?_
  unfold S27
  refine (Hn.start w).nw fun w1 H => H.nw fun w2 H => ?_
  refine H.stT (i := 0) (ts := LiA34) (pre := []) (post := []) (x := pf w1.heap.size) (zs := [.string ⟨#[]⟩, .bool false, .int .i64 0, Slc.v ⟨none, 0, 0⟩, .int .i64 0, Slc.v ⟨none, 0, 0⟩, Slc.v ⟨none, 0, 0⟩]) rfl rfl rfl fun w3 H => ?_
  refine H.ldT (i := 0) (ts := LiA34) (pre := []) (post := []) (x := pf w1.heap.size) rfl rfl ⟨?_, H.ext⟩
  exact { name := rfl, wide := rfl, first := rfl, missing := rfl, widths := VRow.of (H.get 1 rfl) (by decide), names := Row.view (Row.nil _ 9 _), maps := Row.view (Row.nil _ 9 _),
          ifirst := by unfold I64; decide, szn := by decide, lw := by decide, ln := by decide, lm := by decide, szs := fun s hs => (List.not_mem_nil hs).elim, szm := fun s hs => (List.not_mem_nil hs).elim }
def obS (s : ByteArray) : Ob := (4, 0, 0, s, ⟨none, 0, 0⟩, ⟨none, 0, 0⟩)
theorem c_said (nm s : ByteArray) (w : World) : C28 nm s w fun r w1 => r.1 = nm ∧ r.2.2 = ⟨#[]⟩ ∧ OV w1 r.2.1 [obS s] ∧ Ext (fun _ => False) w w1 := by
  refine T28 _ _ _ _ ?_
  unfold S28
  refine (Hn.start w).nw fun w3 H => H.nw fun w4 H => ?_
  iterate 3 (refine H.st 0 rfl (by simp) fun _ H => ?_; simp only [List.nil_append, List.cons_append, List.set_cons_zero, List.set_cons_succ, Nat.zero_add] at H)
  iterate 3 refine H.ld 0 rfl rfl ?_
  exact ⟨rfl, rfl, OV.of (L := [obS s]) (H.get 1 rfl), H.ext⟩
/-- The sample's blocks: the machine, the font. -/
structure LV (w0 u : World) (mb fb : Nat) (m : Mc) (x : FT) : Prop where
  ext : Ext (fun _ => False) w0 u
  fblk : Blk u fb (fol x).toArray TF
  mblk : Blk u mb (mcc m).toArray TK
  lt : fb < mb
  ge : w0.heap.size ≤ fb
section
variable {w0 u u' : World} {mb fb : Nat} {m : Mc} {x : FT}
theorem LV.keep (h : LV w0 u mb fb m x) (e : Ext (fun _ => False) u u') : LV w0 u' mb fb m x := ⟨h.ext.tr e, e.blk h.fblk id, e.blk h.mblk id, h.lt, h.ge⟩
theorem LV.drew (h : LV w0 u mb fb m x) : LV w0 u.drew mb fb m x := h.keep (Ext.refl _ _).drew
theorem LV.face (h : LV w0 u mb fb m x) {K : FT → Prop} (k : K x) : LdST (Ext (fun _ => False) u) (⟨fb, 0, none⟩ : Addr) 0 LiA34 K :=
  LdST.blk (ts := LiA34) (pre := []) (post := []) (t := TF) (x := x) (fun w' hw => hw.blk h.fblk id) rfl k
/-- One operator. -/
theorem LV.step (h : LV w0 u mb fb m x) (hT : TB w0) (hx : FoV w0 x faceF) {o : OpT} {L K : List Ob} {nm : Opr.By} (hnm : Opr.bl o.1 = nm) (hd : Opr.bl o.2.2 = []) (hO : OpV u o L K) {e : Int} {m' : Mc} {gl : List GlT} (hF : doF usualG faceF m nm L K [] = (e, m', gl)) :
    C13 (some (⟨mb, 0, none⟩ : Addr)) o usualG x u fun r e' u' => e' = e ∧ LV w0 u' mb fb m' x ∧ VRow u' r 9 (gl.flatMap glc) ∧ Ext (· = mb) u u' ∧ ∀ j, r.own j → mb < j := by
  refine (c_Do (g := usualG) (hT.keep h.ext) (hx.keep h.ext) h.mblk hO).mono ?_
  rintro r e' u' ⟨mc, gl', hF', hb, he, hv, ho⟩
  rw [hnm, hd, hF] at hF'
  cases hF'
  have hml := h.mblk.lt
  refine ⟨rfl, ⟨ext_new h.ext he fun j hj => ?_, he.blk h.fblk fun e => ?_, hb, h.lt, h.ge⟩, hv, he, fun j hj => ?_⟩
  · have hj : j = mb := hj
    have := h.lt
    have := h.ge
    omega
  · have e : fb = mb := e
    have := h.lt
    omega
  · have := ho j hj
    omega
theorem opv0 (nm : ByteArray) (w : World) : OpV w (nm, ⟨none, 0, 0⟩, ⟨#[]⟩) [] [] :=
  ⟨⟨rfl, rfl, fun j v h => by cases h⟩, fun h => absurd h (by decide), by decide, by decide, fun k hk => (List.not_mem_nil hk).elim, fun k hk => (List.not_mem_nil hk).elim⟩
theorem ov_nil (w : World) : OV w ⟨none, 0, 0⟩ [] := ⟨rfl, rfl, fun j v h => by cases h⟩
end
end Ma
end Go.Proofs.YtcblpehnkogfdaaGreatDoor
/- Text machines: the sample of the laws walked. Conditions: the laid tables. -/
namespace Go.Proofs.YtcblpehnkogfdaaGreatDoor
namespace Ma
open Sh Mat Fix Fo Sw Opr Pat
set_option linter.unusedVariables false
set_option linter.unusedSimpArgs false
set_option maxRecDepth 8000
set_option maxHeartbeats 4000000
theorem grl_set1 (c d : Int) : ((grl (usual2 0 0 c d)).set 22 (.int .i64 1)).set 23 (.int .i64 3) = grl (usual2 1 3 c d) := by simp only [grl, usual2, List.set]
theorem grl_set2 (a b c d e : Int) : (grl (usual2 a b c d)).set 24 (.int .i64 e) = grl (usual2 a b e d) := by simp only [grl, usual2, List.set]
theorem grl_set3 (a b c d e : Int) : (grl (usual2 a b c d)).set 26 (.int .i64 e) = grl (usual2 a b c e) := by simp only [grl, usual2, List.set]
attribute [local irreducible] Ld Sh.St Nw Nn Lt LdS
section
variable {w w0 u : World} {mb fb : Nat} {m : Mc} {x : FT}
def gl1 : List GlT := [(97, ⟨#[97]⟩, 20000, 5000, 70000, 5000, 100000, ⟨#[70]⟩, 0), (98, ⟨#[98]⟩, 70000, 5000, 95000, 5000, 100000, ⟨#[70]⟩, 0)]
def gl2 : List GlT := [(97, ⟨#[97]⟩, 95000, 5000, 145000, 5000, 100000, ⟨#[70]⟩, 0), (97, ⟨#[97]⟩, 245000, 5000, 295000, 5000, 100000, ⟨#[70]⟩, 0)]
theorem at_glyph {w : World} {s : Slc} {L : List GlT} (h : VRow w s 9 (L.flatMap glc)) {i : Nat} (hi : i < L.length) : ∃ a, s.p = some a ∧ ∀ j v, (glc L[i])[j]? = some v → w.cell? ((a.add (i * 9)).add j) = some v := by
  obtain ⟨a, ha, hc⟩ := VRow.elem glc_len h (List.getElem?_eq_getElem hi) (by decide)
  exact ⟨a, ha, fun j v hj => by rw [add_add']; exact hc j v hj⟩
/-- The last part. -/
theorem l_J1 {vw5 vw101 : World} (hfb : fb = vw5.heap.size) {wb : World} (hB : Ext (fun _ => False) wb w0) (hT : TB w0) (hx : FoV w0 x faceF) {l : Mx} (h : LV w0 u mb fb ⟨true, moveM 295000 5000, l⟩ x) {r97 r131 : Slc} (h1 : VRow u r97 9 (gl1.flatMap glc)) (o1 : ∀ j, r97.own j → mb < j) (h2 : VRow u r131 9 (gl2.flatMap glc)) (o2 : ∀ j, r131.own j → mb < j)
    (ht : Blk u vw101.heap.size (mrow (moveM 95000 5000)).toArray TM) (hlt : mb < vw101.heap.size) : S10J1 vw5 (some (⟨mb, 0, none⟩ : Addr)) 29 0 29 0 r97 0 vw101 (r131, 0) 8 (fun r w1 => r = true ∧ Ext (fun _ => False) wb w1) 28 u := by
  unfold S10J1
  refine (c_on h.mblk).mono ?_
  rintro r164 w165 ⟨rfl, rfl⟩
  have hD := h.drew
  subst hfb
  refine ⟨Ext (fun _ => False) w165.drew, Ext.refl _ _, hD.face ?_⟩
  refine (c_usually _).mono ?_
  rintro r168 w169 ⟨rfl, e169⟩
  refine ⟨e169, ((hD.keep e169).step hT hx (nm := [69, 84]) rfl rfl (opv0 _ _) (do_et (K := []) rfl)).mono ?_⟩
  rintro r170 r171 u ⟨rfl, hL, _, eu, _⟩
  have E0 : Ext (fun _ => False) w165 w169 := (Ext.refl (fun _ => False) w165).drew.tr e169
  have v1 := (h1.keep E0).keepF eu fun j hj e => by
    have := o1 j hj
    have e : j = mb := e
    omega
  have v2 := (h2.keep E0).keepF eu fun j hj e => by
    have := o2 j hj
    have e : j = mb := e
    omega
  have ht := eu.blk (E0.blk ht id) fun e => by
    have e : vw101.heap.size = mb := e
    omega
  have n1 := VRow.count glc_len (by decide) v1
  have n2 := VRow.count glc_len (by decide) v2
  obtain ⟨a, ha, ca⟩ := at_glyph v1 (i := 0) (by decide)
  obtain ⟨a', ha', cb⟩ := at_glyph v1 (i := 1) (by decide)
  rw [ha] at ha'
  cases ha'
  obtain ⟨c, hc, cc⟩ := at_glyph v2 (i := 0) (by decide)
  obtain ⟨c', hc', cd⟩ := at_glyph v2 (i := 1) (by decide)
  rw [hc] at hc'
  cases hc'
  rw [n1, ha]
  dsimp only
  rw [n2, hc]
  refine Br.ne (fun q => absurd rfl q) fun _ => Br.ne (fun q => absurd rfl q) fun _ => Br.ne (fun q => absurd rfl q) fun _ => Br.ne (fun q => absurd rfl q) fun _ => Br.ne (fun q => absurd rfl q) fun _ => Br.ne (fun q => absurd rfl q) fun _ => ⟨by decide, by decide, Nn.of ?_⟩
  refine LdT.any LiA69 0 gl1[0] _ (fun j v hj => by rw [Nat.zero_add]; exact ca j v hj) ?_
  refine Lt.of (Sh.Br.f (by simp [gl1]) ⟨by decide, by decide, Nn.of ?_⟩)
  refine Ld.mk (x := 70000) (cb 2 _ rfl) (Br.ne (fun q => absurd rfl q) fun _ => ⟨by decide, by decide, Nn.of ?_⟩)
  refine Ld.mk (x := 95000) (cb 4 _ rfl) (Br.ne (fun q => absurd rfl q) fun _ => ?_)
  refine Ld.of ht (x := 95000) rfl (Br.ne (fun q => absurd rfl q) fun _ => Ld.of ht (x := 5000) rfl (Br.ne (fun q => absurd rfl q) fun _ => ?_))
  refine Sh.Br.t rfl (Sh.Br.t (by decide) ⟨by decide, by decide, Nn.of ?_⟩)
  refine Ld.mk (x := 95000) (cc 2 _ rfl) (Sh.Br.t (by decide) ⟨by decide, by decide, Nn.of ?_⟩)
  refine Ld.mk (x := 245000) (cd 2 _ rfl) (Sh.Br.t (by decide) (Sh.Br.t (by decide) (Sh.Br.t (by decide) (Sh.Br.t rfl (Sh.Br.t (by decide) ?_)))))
  refine (c_on hL.mblk).mono ?_
  rintro r195 w196 ⟨rfl, rfl⟩
  refine Sh.Br.t rfl ((c_matrix hL.mblk).mono ?_)
  rintro r197 w198 ⟨rfl, e198⟩
  refine (Mat.r_one _).mono ?_
  rintro r199 w200 ⟨rfl, e200⟩
  exact Lt.of ⟨by decide, hB.tr (hL.ext.tr (e198.tr e200))⟩
/-- An operator with one array. -/
theorem opvA {w : World} {s : Slc} {o : Ob} {K : List Ob} {nm : ByteArray} (h : OV w s [o]) (hk : OV w o.2.2.2.2.2 K) (hl : K.length ≤ 9223372036854775807) (h1 : o.2.2.2.1.size ≤ 1048576) (h2 : ∀ k ∈ K, k.2.2.2.1.size ≤ 1048576) : OpV w (nm, s, ⟨#[]⟩) [o] K :=
  ⟨h, fun _ => hk, by simp, hl, fun k hm => by rw [List.mem_singleton.1 hm]; exact h1, h2⟩
def obA (b n : Nat) : Ob := (6, 0, 0, ⟨#[]⟩, ⟨none, 0, 0⟩, ⟨some ⟨b, 0, none⟩, n, n⟩)
def obN : Ob := (0, 0, 0, ⟨#[]⟩, ⟨none, 0, 0⟩, ⟨none, 0, 0⟩)
def obI (n : Int) : Ob := (2, n, 0, ⟨#[]⟩, ⟨none, 0, 0⟩, ⟨none, 0, 0⟩)
theorem l_J2 {vw5 vw101 : World} (hfb : fb = vw5.heap.size) {wb : World} (hB : Ext (fun _ => False) wb w0) (hT : TB w0) (hx : FoV w0 x faceF) {l : Mx} (h : LV w0 u mb fb ⟨true, moveM 295000 5000, l⟩ x) {r97 r131 : Slc} (h1 : VRow u r97 9 (gl1.flatMap glc)) (o1 : ∀ j, r97.own j → mb < j) (h2 : VRow u r131 9 (gl2.flatMap glc)) (o2 : ∀ j, r131.own j → mb < j)
    (ht : Blk u vw101.heap.size (mrow (moveM 95000 5000)).toArray TM) (hlt : mb < vw101.heap.size) : S10J2 vw5 (some (⟨mb, 0, none⟩ : Addr)) 29 0 29 0 r97 0 vw101 (fun r w1 => r = true ∧ Ext (fun _ => False) wb w1) (r131, 0) u := by
  unfold S10J2
  have hD := h.drew
  have hml := h.mblk.lt
  subst hfb
  refine ⟨Ext (fun _ => False) u.drew, Ext.refl _ _, hD.face ?_⟩
  refine (c_usually _).mono ?_
  rintro r135 w136 ⟨rfl, e136⟩
  have E0 : Ext (fun _ => False) u w136 := (Ext.refl (fun _ => False) u).drew.tr e136
  refine ⟨e136, ((hD.keep e136).step hT hx (nm := [113]) rfl rfl (opv0 _ _) (do_q (K := []))).mono ?_⟩
  rintro r137 r138 w139 ⟨rfl, hL, _, eu, _⟩
  have hu : Ext (· = mb) u w139 := E0.trans eu (fun _ h => h.elim) fun _ _ h => h
  have keep : ∀ {w2 : World} {r : Slc} {L : List GlT}, Ext (· = mb) u w2 → VRow u r 9 (L.flatMap glc) → (∀ j, r.own j → mb < j) → VRow w2 r 9 (L.flatMap glc) := fun {w2 r L} e hv ho => hv.keepF e fun j hj e => by
    have := ho j hj
    have e : j = mb := e
    omega
  refine ⟨fun st w1 => st = 28 ∧ Ext (· = mb) u w1 ∧ LV w0 w1 mb vw5.heap.size ⟨true, moveM 295000 5000, l⟩ x, ?_, ?_⟩
  · rintro _ w1 ⟨rfl, e1, hl1⟩
    exact l_J1 rfl hB hT hx hl1 (keep e1 h1 o1) o1 (keep e1 h2 o2) o2 (e1.blk ht fun e => by
      have e : vw101.heap.size = mb := e
      omega) hlt
  have hLD := hL.drew
  have huD : Ext (· = mb) u w139.drew := hu.drew
  refine ⟨Ext (fun _ => False) w139.drew, Ext.refl _ _, hLD.face ?_⟩
  have go : ∀ {b1 : Nat} {s : Slc} {w2 : World}, Ext (fun _ => False) w139.drew w2 → OV w2 s [obA b1 1] → OV w2 (obA b1 1).2.2.2.2.2 [obN] → C13 (some (⟨mb, 0, none⟩ : Addr)) ((⟨#[84, 74]⟩ : ByteArray), s, (⟨#[]⟩ : ByteArray)) usualG x w2 fun r e w1 =>
      e = 28 ∧ Ext (· = mb) u w1 ∧ LV w0 w1 mb vw5.heap.size ⟨true, moveM 295000 5000, l⟩ x := fun {b1 s w2} e2 hs hk =>
    ((hLD.keep e2).step hT hx (nm := [84, 74]) rfl rfl (opvA hs hk (by decide) (by show (⟨#[]⟩ : ByteArray).size ≤ 1048576; decide) (by decide)) (do_arr_no (o := obA b1 1) (K := [obN]) rfl rfl (by decide))).mono fun r e w1 h1 => ⟨h1.1, (huD.trans e2 (fun _ h => h) fun _ _ h => h.elim).trans h1.2.2.2.1 (fun _ h => h) fun _ _ h => h, h1.2.1⟩
  refine ⟨(Hn.start w139.drew).nw fun w205 H => ⟨H.ext, ?_, ?_⟩, ?_⟩
  · refine H.nw fun w206 H => ⟨H.ext, (c_usually _).mono ?_⟩
    rintro r207 w208 ⟨rfl, e208⟩
    have H := H.keep e208
    refine ⟨H.ext, (go (b1 := w139.drew.heap.size) H.ext (OV.of (L := [obA w139.drew.heap.size 1]) (H.get 1 rfl)) (OV.of (L := [obN]) (H.get 0 rfl))).mono fun r e w1 h1 => h1⟩
  · refine (c_usually _).mono ?_
    rintro r207 w208 ⟨rfl, e208⟩
    have H := H.keep e208
    refine ⟨H.ext, H.nw fun w214 H => ⟨H.ext, (go (b1 := w139.drew.heap.size) H.ext (OV.of (L := [obA w139.drew.heap.size 1]) (H.get 1 rfl)) (OV.of (L := [obN]) (H.get 0 rfl))).mono fun r e w1 h1 => h1⟩⟩
  · refine (c_usually _).mono ?_
    rintro r207 w208 ⟨rfl, e208⟩
    refine ⟨e208, ((Hn.start w139.drew).keep e208).nw fun w220 H => ⟨H.ext, H.nw fun w221 H => ⟨H.ext, (go (b1 := w208.heap.size) H.ext (OV.of (L := [obA w208.heap.size 1]) (H.get 1 rfl)) (OV.of (L := [obN]) (H.get 0 rfl))).mono fun r e w1 h1 => h1⟩⟩⟩
/-- From the first moves on. -/
theorem l_J3 {vw5 : World} (hfb : fb = vw5.heap.size) {wb : World} (hB : Ext (fun _ => False) wb w0) (hT : TB w0) (hx : FoV w0 x faceF) {l : Mx} (h : LV w0 u mb fb ⟨true, moveM 20000 5000, l⟩ x) :
    S10J3 vw5 (some (⟨mb, 0, none⟩ : Addr)) 29 0 29 (fun r w1 => r = true ∧ Ext (fun _ => False) wb w1) 0 u := by
  unfold S10J3
  have hD := h.drew
  have hml := h.mblk.lt
  subst hfb
  refine ⟨Ext (fun _ => False) u.drew, Ext.refl _ _, hD.face ?_⟩
  refine (c_said _ _ _).mono ?_
  rintro r93 w94 ⟨q1, q2, q3, e94⟩
  refine ⟨e94, (c_usually _).mono ?_⟩
  rintro r95 w96 ⟨rfl, e96⟩
  have E96 := e94.tr e96
  have hO : OpV w96 r93 [obS ⟨#[97, 98]⟩] [] := ⟨q3.keep e96, fun _ => ov_nil _, by simp, by simp, fun k hm => by rw [List.mem_singleton.1 hm]; decide, fun k hm => (List.not_mem_nil hm).elim⟩
  refine ⟨E96, ((hD.keep E96).step hT hx (nm := [84, 106]) (by rw [q1]) (by rw [q2]) hO (do_tj (m' := m0) (K := []) (o := obS ⟨#[97, 98]⟩) rfl rfl str0 (by decide))).mono ?_⟩
  rintro r97 r98 w99 ⟨rfl, hL, hv, eu, ho⟩
  refine (c_matrix hL.mblk).mono ?_
  rintro r100 w101 ⟨rfl, e101⟩
  have hm101 := (hL.keep e101).mblk.lt
  refine mk_mx w101 (moveM 95000 5000) fun w108 e108 hb108 => ?_
  have hL := (hL.keep e101).keep e108
  have hv := (hv.keep e101).keep e108
  have keep : ∀ {w2 : World}, Ext (· = mb) w108 w2 → VRow w2 r97 9 (gl1.flatMap glc) := fun {w2} e => hv.keepF e fun j hj e => by
    have := ho j hj
    have e : j = mb := e
    omega
  refine ⟨fun st w1 => ∃ r, st = (r, 0) ∧ Ext (· = mb) w108 w1 ∧ LV w0 w1 mb vw5.heap.size ⟨true, moveM 295000 5000, l⟩ x ∧ VRow w1 r 9 (gl2.flatMap glc) ∧ ∀ j, r.own j → mb < j, ?_, ?_⟩
  · rintro _ w1 ⟨r, rfl, e1, hl1, hv2, ho2⟩
    exact l_J2 rfl hB hT hx hl1 (keep e1) ho hv2 ho2 (e1.blk hb108 fun e => by
      have e : w101.heap.size = mb := e
      omega) hm101
  have hLD := hL.drew
  have huD : Ext (· = mb) w108 w108.drew := (Ext.refl _ _).drew
  refine ⟨Ext (fun _ => False) w108.drew, Ext.refl _ _, hLD.face ?_⟩
  have go : ∀ {b1 : Nat} {s : Slc} {w2 : World}, Ext (fun _ => False) w108.drew w2 → OV w2 s [obA b1 3] → OV w2 (obA b1 3).2.2.2.2.2 [obS ⟨#[97]⟩, obI (-1000), obS ⟨#[97]⟩] → C13 (some (⟨mb, 0, none⟩ : Addr)) ((⟨#[84, 74]⟩ : ByteArray), s, (⟨#[]⟩ : ByteArray)) usualG x w2 fun r e w1 =>
      ∃ r', (r, e) = (r', 0) ∧ Ext (· = mb) w108 w1 ∧ LV w0 w1 mb vw5.heap.size ⟨true, moveM 295000 5000, l⟩ x ∧ VRow w1 r' 9 (gl2.flatMap glc) ∧ ∀ j, r'.own j → mb < j := fun {b1 s w2} e2 hs hk =>
    ((hLD.keep e2).step hT hx (nm := [84, 74]) rfl rfl (opvA hs hk (by decide) (by show (⟨#[]⟩ : ByteArray).size ≤ 1048576; decide) (by decide)) (do_arr (o := obA b1 3) (K := [obS ⟨#[97]⟩, obI (-1000), obS ⟨#[97]⟩]) rfl rfl (by decide) (row_sample rfl rfl rfl rfl rfl rfl))).mono fun r e w1 h1 => ⟨r, by rw [h1.1], (huD.trans e2 (fun _ h => h) fun _ _ h => h.elim).trans h1.2.2.2.1 (fun _ h => h) fun _ _ h => h, h1.2.1, h1.2.2.1, h1.2.2.2.2⟩
  refine ⟨(Hn.start w108.drew).nw fun w205 H => ⟨H.ext, ?_, ?_⟩, ?_⟩
  · refine H.nw fun w206 H => ⟨H.ext, (c_usually _).mono ?_⟩
    rintro r207 w208 ⟨rfl, e208⟩
    have H := H.keep e208
    refine ⟨H.ext, (go (b1 := w108.drew.heap.size) H.ext (OV.of (L := [obA w108.drew.heap.size 3]) (H.get 1 rfl)) (OV.of (L := [obS ⟨#[97]⟩, obI (-1000), obS ⟨#[97]⟩]) (H.get 0 rfl))).mono fun r e w1 h1 => h1⟩
  · refine (c_usually _).mono ?_
    rintro r207 w208 ⟨rfl, e208⟩
    have H := H.keep e208
    refine ⟨H.ext, H.nw fun w214 H => ⟨H.ext, (go (b1 := w108.drew.heap.size) H.ext (OV.of (L := [obA w108.drew.heap.size 3]) (H.get 1 rfl)) (OV.of (L := [obS ⟨#[97]⟩, obI (-1000), obS ⟨#[97]⟩]) (H.get 0 rfl))).mono fun r e w1 h1 => h1⟩⟩
  · refine (c_usually _).mono ?_
    rintro r207 w208 ⟨rfl, e208⟩
    refine ⟨e208, ((Hn.start w108.drew).keep e208).nw fun w220 H => ⟨H.ext, H.nw fun w221 H => ⟨H.ext, (go (b1 := w208.heap.size) H.ext (OV.of (L := [obA w208.heap.size 3]) (H.get 1 rfl)) (OV.of (L := [obS ⟨#[97]⟩, obI (-1000), obS ⟨#[97]⟩]) (H.get 0 rfl))).mono fun r e w1 h1 => h1⟩⟩⟩
end
end Ma
end Go.Proofs.YtcblpehnkogfdaaGreatDoor

/- Text machines: the sample of the laws walked, whole: lives answers true. Conditions: the laid tables. -/
namespace Go.Proofs.YtcblpehnkogfdaaGreatDoor
namespace Ma
open Sh Mat Fix Fo Sw Opr Pat
set_option linter.unusedVariables false
set_option linter.unusedSimpArgs false
set_option maxRecDepth 8000
set_option maxHeartbeats 4000000
attribute [local irreducible] Ld Sh.St Nw Nn Lt LdS
def obR (n : Int) : Ob := (3, n, 0, ⟨#[]⟩, ⟨none, 0, 0⟩, ⟨none, 0, 0⟩)
def noneX : FT := (⟨#[]⟩, false, 0, ⟨none, 0, 0⟩, 0, ⟨none, 0, 0⟩, ⟨none, 0, 0⟩)
theorem none_fo (w : World) : FoV w noneX noneF :=
  { name := rfl, wide := rfl, first := rfl, missing := rfl, widths := Row.view (Row.nil _ 9 _), names := Row.view (Row.nil _ 9 _), maps := Row.view (Row.nil _ 9 _),
    ifirst := by unfold I64; decide, szn := by decide, lw := by decide, ln := by decide, lm := by decide, szs := fun s hs => (List.not_mem_nil hs).elim, szm := fun s hs => (List.not_mem_nil hs).elim }
theorem c_lives {w : World} (hT : TB w) : C10 w fun r w1 => r = true ∧ Ext (fun _ => False) w w1 := by
  refine T10 _ _ ?_
  unfold S10
  refine (c_usually _).mono ?_
  rintro r1 w2 ⟨rfl, e2⟩
  refine (c_face _).mono ?_
  rintro x w4 ⟨hx, e4⟩
  have E4 := e2.tr e4
  have hT := hT.keep E4
  refine (Hn.start w4).nw fun w5 H => H.nw fun w6 H => ?_
  have hlt : w4.heap.size < w5.heap.size := (Hn.left (M := [(w5.heap.size, [.string ⟨#[]⟩, .bool false, .int .i64 0, Slc.v ⟨none, 0, 0⟩, .int .i64 0, Slc.v ⟨none, 0, 0⟩, Slc.v ⟨none, 0, 0⟩], TF)]) H).ge 0 rfl |> fun _ => H.lt 0 rfl |> fun _ => by
    have h1 := H.h.nodup
    rw [arr_fst] at h1
    have h2 := H.ge 1 rfl
    have h3 : w4.heap.size ≠ w5.heap.size := by
      intro e
      simp [e] at h1
    omega
  refine H.stT (i := 0) (ts := LiA30) (pre := []) (post := []) (x := usualG) (zs := [.int .i64 0, .int .i64 0, .int .i64 0, .int .i64 0, .int .i64 0, .int .i64 0, .int .i64 0, .int .i64 0, .int .i64 0, .int .i64 0, Slc.v ⟨none, 0, 0⟩, .int .i64 0, .int .i64 0, .int .i64 0, .int .i64 0, .int .i64 0, .int .i64 0, .int .i64 0, .int .i64 0, .int .i64 0, .int .i64 0, .int .i64 0, .int .i64 0, .int .i64 0, .int .i64 0, .int .i64 0, .int .i64 0, .int .i64 0, .string ⟨#[]⟩, .int .i64 0]) rfl rfl rfl fun w7 H => ?_
  refine H.stT (i := 1) (ts := LiA34) (pre := []) (post := []) (x := x) (zs := [.string ⟨#[]⟩, .bool false, .int .i64 0, Slc.v ⟨none, 0, 0⟩, .int .i64 0, Slc.v ⟨none, 0, 0⟩, Slc.v ⟨none, 0, 0⟩]) rfl rfl rfl fun w8 H => ?_
  have H : Hn w4 w8 [(w4.heap.size, grl (usual2 0 0 1000000 100000), TG), (w5.heap.size, fol x, TF)] := H
  have stp : ∀ {u : World} {a b c d code : Int} {ab : Int × Int}, Hn w4 u [(w4.heap.size, grl (usual2 a b c d), TG), (w5.heap.size, fol x, TF)] → I64 code → stepF (usual2 a b c d) faceF code = ab → ∀ {K : Int → Int → World → Prop}, (∀ u', Hn w4 u' [(w4.heap.size, grl (usual2 a b c d), TG), (w5.heap.size, fol x, TF)] → K ab.1 ab.2 u') →
      LdT u (⟨w4.heap.size, 0, none⟩ : Addr) 0 LiA30 fun (x9 : GT) => LdT u (⟨w5.heap.size, 0, none⟩ : Addr) 0 LiA34 fun (x10 : FT) => C11 x9 x10 code u K := fun {u a b c d code ab} H hc hs {K} k => by
    refine H.ldT (i := 0) (ts := LiA30) (pre := []) (post := []) (x := usual2 a b c d) rfl rfl ?_
    refine H.ldT (i := 1) (ts := LiA34) (pre := []) (post := []) (x := x) rfl rfl ?_
    refine (c_stepW (g := usual2 a b c d) (hT.keep H.ext) (hx.keep H.ext) hc).mono ?_
    rintro r e u' ⟨hr, e'⟩
    rw [hs] at hr
    obtain ⟨rfl, rfl⟩ := Prod.mk.inj hr
    exact k u' (H.keep e')
  refine stp H (by unfold I64; decide) step1 fun w13 H => ?_
  refine H.st 0 (o := 22) rfl (by show 22 < 30; decide) fun w14 H => H.st 0 (o := 23) rfl (by show 23 < 30; decide) fun w15 H => ?_
  have H : Hn w4 w15 [(w4.heap.size, grl (usual2 1 3 1000000 100000), TG), (w5.heap.size, fol x, TF)] := by rw [← grl_set1]; exact H
  refine stp H (by unfold I64; decide) step2 fun w20 H => stp H (by unfold I64; decide) step3 fun w25 H => ?_
  refine (c_usually _).mono ?_
  rintro r26 w27 ⟨rfl, e27⟩
  have H := H.keep e27
  refine H.stT (i := 0) (ts := LiA30) (pre := []) (post := []) (x := usualG) (zs := grl (usual2 1 3 1000000 100000)) rfl rfl rfl fun w28 H => ?_
  have H : Hn w4 w28 [(w4.heap.size, grl (usual2 0 0 1000000 100000), TG), (w5.heap.size, fol x, TF)] := H
  refine H.st 0 (o := 24) rfl (by show 24 < 30; decide) fun w29 H => ?_
  have H : Hn w4 w29 [(w4.heap.size, grl (usual2 0 0 500000 100000), TG), (w5.heap.size, fol x, TF)] := by rw [← grl_set2 0 0 1000000 100000 500000]; exact H
  refine stp H (by unfold I64; decide) step4 fun w34 H => ?_
  refine H.st 0 (o := 26) rfl (by show 26 < 30; decide) fun w35 H => ?_
  have H : Hn w4 w35 [(w4.heap.size, grl (usual2 0 0 500000 1073741825), TG), (w5.heap.size, fol x, TF)] := by rw [← grl_set3 0 0 500000 100000 1073741825]; exact H
  refine stp H (by unfold I64; decide) step5 fun w40 H => ?_
  refine (c_usually _).mono ?_
  rintro r41 w42 ⟨rfl, e42⟩
  have H := H.keep e42
  refine (c_stepW (g := usualG) (x := noneX) (hT.keep H.ext) (none_fo _) (code := 97) (by unfold I64; decide)).mono ?_
  rintro r43 r44 w45 ⟨hr, e45⟩
  rw [step6] at hr
  obtain ⟨rfl, rfl⟩ := Prod.mk.inj hr
  have H := H.keep e45
  refine (c_new _).mono ?_
  rintro r46 w47 ⟨mb, rfl, hge, hmb, e47⟩
  have hf5 := H.lt 1 rfl
  have H := H.keep e47
  have hL : LV w4 w47 mb w5.heap.size m0 x := ⟨H.ext, H.get 1 rfl, hmb, by omega, by omega⟩
  refine Sh.Br.f rfl ((c_on hL.mblk).mono ?_)
  rintro r50 w51 ⟨rfl, rfl⟩
  refine Sh.Br.f rfl (Br.ne (fun q => absurd rfl q) fun _ => Br.ne (fun q => absurd rfl q) fun _ => Br.ne (fun q => absurd rfl q) fun _ => Br.ne (fun q => absurd rfl q) fun _ => Br.ne (fun q => absurd rfl q) fun _ => Br.ne (fun q => absurd rfl q) fun _ => Br.ne (fun q => absurd rfl q) fun _ => Br.ne (fun q => absurd rfl q) fun _ => Br.ne (fun q => absurd rfl q) fun _ => Br.ne (fun q => absurd rfl q) fun _ => ?_)
  have hD := hL.drew
  refine ⟨Ext (fun _ => False) w51.drew, Ext.refl _ _, hD.face ?_⟩
  refine (c_said _ _ _).mono ?_
  rintro r54 w55 ⟨q1, q2, q3, e55⟩
  refine ⟨e55, (c_usually _).mono ?_⟩
  rintro r56 w57 ⟨rfl, e57⟩
  have E57 := e55.tr e57
  have hO : OpV w57 r54 [obS ⟨#[97]⟩] [] := ⟨q3.keep e57, fun _ => ov_nil _, by simp, by simp, fun k hm => by rw [List.mem_singleton.1 hm]; decide, fun k hm => (List.not_mem_nil hm).elim⟩
  refine ⟨E57, ((hD.keep E57).step hT hx (nm := [84, 106]) (by rw [q1]) (by rw [q2]) hO (do_tj_off (K := []) (o := obS ⟨#[97]⟩) rfl rfl)).mono ?_⟩
  rintro r58 r59 w60 ⟨rfl, hL, _, _, _⟩
  have hD := hL.drew
  refine ⟨Ext (fun _ => False) w60.drew, Ext.refl _ _, hD.face ?_⟩
  refine (c_usually _).mono ?_
  rintro r63 w64 ⟨rfl, e64⟩
  refine ⟨e64, ((hD.keep e64).step hT hx (nm := [66, 84]) rfl rfl (opv0 _ _) (do_bt (K := []) rfl)).mono ?_⟩
  rintro r65 r66 w67 ⟨rfl, hL, _, _, _⟩
  have hD := hL.drew
  refine ⟨Ext (fun _ => False) w67.drew, Ext.refl _ _, hD.face ?_⟩
  refine (c_usually _).mono ?_
  rintro r70 w71 ⟨rfl, e71⟩
  refine ⟨e71, ((hD.keep e71).step hT hx (nm := [66, 84]) rfl rfl (opv0 _ _) (do_bt2 (K := []) rfl)).mono ?_⟩
  rintro r72 r73 w74 ⟨rfl, hL, _, _, _⟩
  refine ⟨fun st w1 => st = 0 ∧ LV w4 w1 mb w5.heap.size ⟨true, moveM 20000 5000, moveM 20000 5000⟩ x, ?_, ?_⟩
  · rintro _ w1 ⟨rfl, h1⟩
    exact l_J3 (vw5 := w5) rfl E4 hT hx h1
  have hD := hL.drew
  refine ⟨Ext (fun _ => False) w74.drew, Ext.refl _ _, hD.face ?_⟩
  have go : ∀ {s : Slc} {w2 : World}, Ext (fun _ => False) w74.drew w2 → OV w2 s [obI 2, obR 5000] → C13 (some (⟨mb, 0, none⟩ : Addr)) ((⟨#[84, 100]⟩ : ByteArray), s, (⟨#[]⟩ : ByteArray)) usualG x w2 fun r e w1 =>
      e = 0 ∧ LV w4 w1 mb w5.heap.size ⟨true, moveM 20000 5000, moveM 20000 5000⟩ x := fun {s w2} e2 hs =>
    ((hD.keep e2).step hT hx (nm := [84, 100]) (L := [obI 2, obR 5000]) (K := []) rfl rfl ⟨hs, fun _ => ov_nil _, by simp, by simp, fun k hm => by
        rcases List.mem_cons.1 hm with rfl | hm
        · decide
        · rw [List.mem_singleton.1 hm]; decide, fun k hm => (List.not_mem_nil hm).elim⟩ (do_td (a := obI 2) (b := obR 5000) (x := 20000) (y := 5000) (l := moveM 20000 5000) rfl (by decide) (by decide) (.inl rfl) (.inr rfl) (by decide))).mono fun r e w1 h1 => ⟨h1.1, h1.2.1⟩
  refine ⟨(Hn.start w74.drew).nw fun w251 H => ⟨H.ext, (c_usually _).mono ?_⟩, (c_usually _).mono ?_⟩
  · rintro r252 w253 ⟨rfl, e253⟩
    have H := H.keep e253
    exact ⟨H.ext, (go H.ext (OV.of (L := [obI 2, obR 5000]) (H.get 0 rfl))).mono fun r e w1 h1 => h1⟩
  · rintro r257 w258 ⟨rfl, e258⟩
    refine ⟨e258, ((Hn.start w74.drew).keep e258).nw fun w259 H => ⟨H.ext, (go H.ext (OV.of (L := [obI 2, obR 5000]) (H.get 0 rfl))).mono fun r e w1 h1 => h1⟩⟩
end Ma
end Go.Proofs.YtcblpehnkogfdaaGreatDoor
