/- Shown strings: the law on composed strings, its end. Conditions: sizes, the laid tables. -/
import Derived.Test.YtcblpehnkogfdaaDoorSwF
import Derived.Test.YtcblpehnkogfdaaDoorFnTop
namespace Go.Proofs.YtcblpehnkogfdaaDoor
namespace Sw
open Sh Mat Fix Fo
set_option linter.unusedVariables false
set_option linter.unusedSimpArgs false
set_option maxRecDepth 4000
set_option maxHeartbeats 4000000
attribute [local irreducible] Ld St Nw Nn Lt LdS
def grl (g : GT) : List Value := [.int .i64 (g.1), .int .i64 (g.2.1), .int .i64 (g.2.2.1), .int .i64 (g.2.2.2.1), .int .i64 (g.2.2.2.2.1), .int .i64 (g.2.2.2.2.2.1), .int .i64 (g.2.2.2.2.2.2.1), .int .i64 (g.2.2.2.2.2.2.2.1), .int .i64 (g.2.2.2.2.2.2.2.2.1), .int .i64 (g.2.2.2.2.2.2.2.2.2.1), Slc.v (g.2.2.2.2.2.2.2.2.2.2.1), .int .i64 (g.2.2.2.2.2.2.2.2.2.2.2.1), .int .i64 (g.2.2.2.2.2.2.2.2.2.2.2.2.1), .int .i64 (g.2.2.2.2.2.2.2.2.2.2.2.2.2.1), .int .i64 (g.2.2.2.2.2.2.2.2.2.2.2.2.2.2.1), .int .i64 (g.2.2.2.2.2.2.2.2.2.2.2.2.2.2.2.1), .int .i64 (g.2.2.2.2.2.2.2.2.2.2.2.2.2.2.2.2.1), .int .i64 (g.2.2.2.2.2.2.2.2.2.2.2.2.2.2.2.2.2.1), .int .i64 (g.2.2.2.2.2.2.2.2.2.2.2.2.2.2.2.2.2.2.1), .int .i64 (g.2.2.2.2.2.2.2.2.2.2.2.2.2.2.2.2.2.2.2.1), .int .i64 (g.2.2.2.2.2.2.2.2.2.2.2.2.2.2.2.2.2.2.2.2.1), .int .i64 (g.2.2.2.2.2.2.2.2.2.2.2.2.2.2.2.2.2.2.2.2.2.1), .int .i64 (g.2.2.2.2.2.2.2.2.2.2.2.2.2.2.2.2.2.2.2.2.2.2.1), .int .i64 (g.2.2.2.2.2.2.2.2.2.2.2.2.2.2.2.2.2.2.2.2.2.2.2.1), .int .i64 (g.2.2.2.2.2.2.2.2.2.2.2.2.2.2.2.2.2.2.2.2.2.2.2.2.1), .int .i64 (g.2.2.2.2.2.2.2.2.2.2.2.2.2.2.2.2.2.2.2.2.2.2.2.2.2.1), .int .i64 (g.2.2.2.2.2.2.2.2.2.2.2.2.2.2.2.2.2.2.2.2.2.2.2.2.2.2.1), .int .i64 (g.2.2.2.2.2.2.2.2.2.2.2.2.2.2.2.2.2.2.2.2.2.2.2.2.2.2.2.1), .string (g.2.2.2.2.2.2.2.2.2.2.2.2.2.2.2.2.2.2.2.2.2.2.2.2.2.2.2.2.1), .int .i64 (g.2.2.2.2.2.2.2.2.2.2.2.2.2.2.2.2.2.2.2.2.2.2.2.2.2.2.2.2.2)]
def fol (x : FT) : List Value := [.string (x.1), .bool (x.2.1), .int .i64 (x.2.2.1), Slc.v (x.2.2.2.1), .int .i64 (x.2.2.2.2.1), Slc.v (x.2.2.2.2.2.1), Slc.v (x.2.2.2.2.2.2)]
abbrev TM : TypeId := 23
abbrev TG : TypeId := 30
abbrev TF : TypeId := 34
theorem glc_all (L : List GlT) : ∀ v ∈ L.flatMap glc, v.oneCell' = true := fun v hv => by
  obtain ⟨x, _, hx⟩ := List.mem_flatMap.1 hv
  exact glc_one x v hx
theorem ld_glyph {w : World} {s : Slc} {L : List GlT} (h : VRow w s 9 (L.flatMap glc)) {i : Nat} (hi : i < L.length) : ∃ a, s.p = some a ∧ ∀ j v, (glc L[i])[j]? = some v → w.cell? ((a.add (i * 9)).add j) = some v := by
  obtain ⟨a, ha, hc⟩ := VRow.elem glc_len h (List.getElem?_eq_getElem hi) (by decide)
  exact ⟨a, ha, fun j v hj => by rw [add_add']; exact hc j v hj⟩
/-- A matrix is stored in its block. -/
theorem st_mx {w : World} {b : Nat} {m : Mx} (h : Blk w b (mrow m).toArray TM) (r : Mx) {K : World → Prop} (k : ∀ w2, Ext (· = b) w w2 → Blk w2 b (mrow r).toArray TM → K w2) :
    St w (⟨b, 0, none⟩ : Addr) (.int .i64 r.1) fun w1 => St w1 ((⟨b, 0, none⟩ : Addr).add 1) (.int .i64 r.2.1) fun w2 => St w2 ((⟨b, 0, none⟩ : Addr).add 2) (.int .i64 r.2.2.1) fun w3 =>
      St w3 ((⟨b, 0, none⟩ : Addr).add 3) (.int .i64 r.2.2.2.1) fun w4 => St w4 ((⟨b, 0, none⟩ : Addr).add 4) (.int .i64 r.2.2.2.2.1) fun w5 => St w5 ((⟨b, 0, none⟩ : Addr).add 5) (.int .i64 r.2.2.2.2.2) fun w6 => K w6 := by
  have H := Hx.one (F := (· = b)) h
  refine H.st 0 rfl (by simp) (.inl rfl) fun _ H => H.st 0 rfl (by simp) (.inl rfl) fun _ H => H.st 0 rfl (by simp) (.inl rfl) fun _ H => H.st 0 rfl (by simp) (.inl rfl) fun _ H => H.st 0 rfl (by simp) (.inl rfl) fun _ H => H.st 0 rfl (by simp) (.inl rfl) fun _ H => ?_
  exact k _ H.ext (H.get 0 rfl)
theorem mk_mx (w : World) (r : Mx) {K : World → Prop} (k : ∀ w2, Ext (fun _ => False) w w2 → Blk w2 w.heap.size (mrow r).toArray TM → K w2) :
    Nw w (.cells #[.int .i64 0, .int .i64 0, .int .i64 0, .int .i64 0, .int .i64 0, .int .i64 0] TM) fun w0 =>
    St w0 (⟨w.heap.size, 0, none⟩ : Addr) (.int .i64 r.1) fun w1 => St w1 ((⟨w.heap.size, 0, none⟩ : Addr).add 1) (.int .i64 r.2.1) fun w2 => St w2 ((⟨w.heap.size, 0, none⟩ : Addr).add 2) (.int .i64 r.2.2.1) fun w3 =>
      St w3 ((⟨w.heap.size, 0, none⟩ : Addr).add 3) (.int .i64 r.2.2.2.1) fun w4 => St w4 ((⟨w.heap.size, 0, none⟩ : Addr).add 4) (.int .i64 r.2.2.2.2.1) fun w5 => St w5 ((⟨w.heap.size, 0, none⟩ : Addr).add 5) (.int .i64 r.2.2.2.2.2) fun w6 => K w6 := by
  refine (Hn.start w).nw fun w1 H => ?_
  exact st_mx (m := noM) (H.get 0 rfl) r fun w2 e hb => k w2 (ext_new H.ext e fun j hj => Nat.le_of_eq hj.symm) hb
section
variable {w ws vw98 : World} {r95 ra rb : Slc} {g : GT} {x : FT} {f : Font}
theorem w_J2 {b : Nat} {am : Addr} {La Lb : List GlT} {m' : Mx} (E : Ext (fun _ => False) w ws) (h98 : Blk ws vw98.heap.size (mrow m').toArray TM) (hb : Blk ws b (mrow m').toArray TM) (hr : VRow ws r95 9 ((La ++ Lb).flatMap glc)) (ha : VRow ws ra 9 (La.flatMap glc)) (hb2 : VRow ws rb 9 (Lb.flatMap glc)) (hl : (La ++ Lb).length ≤ 1048576) :
    S3J2 r95 vw98 (ra, am, 0) (fun r w1 => r = true ∧ Ext (fun _ => False) w w1) (rb, ⟨b, 0, none⟩, 0) ws := by
  unfold S3J2
  dsimp only
  have n1 := VRow.count glc_len (by decide) hr
  have n2 := VRow.count glc_len (by decide) ha
  have n3 := VRow.count glc_len (by decide) hb2
  have n4 : (La ++ Lb).length = La.length + Lb.length := List.length_append
  refine Br.ne (fun h => absurd rfl h) fun _ => Br.ne (fun h => absurd rfl h) fun _ => ?_
  refine Ld.of hb (x := m'.1) rfl (Ld.of hb (x := m'.2.1) rfl (Ld.of hb (x := m'.2.2.1) rfl (Ld.of hb (x := m'.2.2.2.1) rfl (Ld.of hb (x := m'.2.2.2.2.1) rfl (Ld.of hb (x := m'.2.2.2.2.2) rfl ?_)))))
  refine Ld.of h98 (x := m'.1) rfl (Ld.of h98 (x := m'.2.1) rfl (Ld.of h98 (x := m'.2.2.1) rfl (Ld.of h98 (x := m'.2.2.2.1) rfl (Ld.of h98 (x := m'.2.2.2.2.1) rfl (Ld.of h98 (x := m'.2.2.2.2.2) rfl ?_)))))
  refine Lt.of (Br.f (by simp) (Lt.of (Br.f ?_ ?_)))
  · rw [n1, n2, n3, n4, i64_id (by omega)]
    simp
  refine Nw.of ?_
  have e1 := (Ext.refl (fun _ => False) ws).alloc (.cells #[] 45)
  obtain ⟨s1, w1, hrun1, hrow1, hl1, hext1, hown1⟩ := elGl.app (ty := 37) (Row.new ws #[] 45 9 0 rfl) (ha.keep e1) (glc_all La) (by show (0 + ra.len) * 88 ≤ _; omega) (by show 0 + ra.len ≤ _; omega)
  have E1 : Ext (fun _ => False) ws w1 := ext_new e1 hext1 fun j hj => by
    obtain ⟨a, hp, hq⟩ := hj
    cases hp
    exact Nat.le_of_eq hq
  have own1 : ∀ j, s1.own j → ws.heap.size ≤ j := fun j hj => by
    rcases hown1 j hj with h1 | h1
    · obtain ⟨a, hp, hq⟩ := h1
      cases hp
      exact Nat.le_of_eq hq
    · have := e1.size
      omega
  refine ⟨s1, w1, hrun1, ?_⟩
  obtain ⟨s2, w2, hrun2, hrow2, hl2, hext2, hown2⟩ := elGl.app (ty := 37) hrow1 (hb2.keep E1) (glc_all Lb) (by rw [hl1]; show (0 + ra.len + rb.len) * 88 ≤ _; omega) (by rw [hl1]; show 0 + ra.len + rb.len ≤ _; omega)
  have E2 : Ext (fun _ => False) ws w2 := ext_new E1 hext2 own1
  refine ⟨s2, w2, hrun2, ?_⟩
  have hv : VRow w2 s2 9 ((La ++ Lb).flatMap glc) := Row.view (by rw [List.flatMap_append]; simpa using hrow2)
  have n5 := VRow.count glc_len (by decide) hv
  have hr2 := hr.keep E2
  have EE := E.tr E2
  generalize La ++ Lb = L at *
  refine ⟨fun n st w1 => ∃ i : Nat, st = (i : Int) ∧ i ≤ L.length ∧ n = L.length - i ∧ Ext (fun _ => False) w2 w1, L.length, ⟨0, rfl, Nat.zero_le _, rfl, Ext.refl _ _⟩, ?_⟩
  rintro n st w3 ⟨i, rfl, hi, rfl, e3⟩
  unfold S3L1
  dsimp only
  rw [n5, n1]
  refine Br.dec (fun q => ⟨by omega, by omega, ?_⟩) fun q => ⟨rfl, EE.tr e3⟩
  have hil : i < L.length := by omega
  obtain ⟨a, hap, hac⟩ := ld_glyph (hv.keep e3) hil
  rw [hap]
  refine Nn.of (LdT.any LiA44 0 L[i] _ (fun j v hj => by rw [Nat.zero_add, Int.toNat_natCast]; exact hac j v hj) ?_)
  refine (Hn.start w3).nw fun w4 H => H.stT (i := 0) (ts := LiA44) (pre := []) (post := []) (zs := [.int .i64 0, .string ⟨#[]⟩, .int .i64 0, .int .i64 0, .int .i64 0, .int .i64 0, .int .i64 0, .string ⟨#[]⟩, .int .i64 0]) rfl rfl rfl fun w5 H => ?_
  have H := H.drew
  refine H.ldT (i := 0) (ts := LiA44) (pre := []) (post := []) (x := L[i]) rfl rfl ⟨by omega, by omega, ?_⟩
  have e5 := e3.tr H.ext
  obtain ⟨a2, hap2, hac2⟩ := ld_glyph (hr2.keep e5) hil
  rw [hap2]
  refine Nn.of (LdT.any LiA44 0 L[i] _ (fun j v hj => by rw [Nat.zero_add, Int.toNat_natCast]; exact hac2 j v hj) ?_)
  exact Lt.of (Br.f (by simp) ⟨L.length - (i + 1), by omega, i + 1, by rw [i64_id (by omega)]; rfl, by omega, rfl, e5⟩)
/-- The second part. -/
theorem w_J3 {vw7 : World} {s : ByteArray} {k : Nat} {b : Nat} {La Lb : List GlT} {m1 m' : Mx} {mb : Nat} {m : Mx} (hT : TB w) (h : FoV w x f) (hs : s.size ≤ 1048576) (hk : k ≤ s.size)
    (H : Hn w ws [(w.heap.size, grl g, TG), (mb, mrow m, TM), (vw7.heap.size, fol x, TF), (vw98.heap.size, mrow m', TM)]) (hb : Blk ws b (mrow m1).toArray TM) (hr : VRow ws r95 9 ((La ++ Lb).flatMap glc)) (ha : VRow ws ra 9 (La.flatMap glc))
    (hl : (La ++ Lb).length ≤ 1048576) (h2 : stringF g m1 f (s.extract k s.size) = (Lb, m', 0)) :
    S3J3 w s (k : Int) vw7 r95 vw98 (fun r w1 => r = true ∧ Ext (fun _ => False) w w1) (ra, ⟨b, 0, none⟩, 0) ws := by
  unfold S3J3
  dsimp only
  have hD := H.drew
  have E0 := hD.ext
  have hz : (s.extract k s.size).size ≤ 1048576 := by rw [ByteArray.size_extract]; omega
  refine ⟨fun st w1 => ∃ rb bb, st = (rb, ⟨bb, 0, none⟩, 0) ∧ Ext (fun _ => False) ws.drew w1 ∧ Blk w1 bb (mrow m').toArray TM ∧ VRow w1 rb 9 (Lb.flatMap glc), ?_, ?_⟩
  · rintro _ w1 ⟨rb, bb, rfl, e1, hbb, hvb⟩
    have H1 := hD.keep e1
    have ed := (Ext.refl (fun _ => False) ws).drew.tr e1
    exact w_J2 H1.ext (H1.get 3 rfl) hbb (hr.keep ed) (ha.keep ed) hvb hl
  have hbd : ∀ {j : Nat} {v : Value}, (mrow m1)[j]? = some v → ws.drew.cell? ⟨b, j, none⟩ = some v := fun {j v} hj => by
    rw [hb.drew.cell, List.getElem?_toArray]
    exact hj
  refine ⟨Ext (fun _ => False) ws.drew, Ext.refl _ _, ?_⟩
  refine LdST.blk (ts := LiA29) (pre := []) (post := []) (t := TG) (x := g) (fun w' hw => hw.blk (hD.get 0 rfl) id) rfl ?_
  refine ldS_ext (x := m1.1) (hbd rfl) (ldS_ext (x := m1.2.1) (hbd rfl) (ldS_ext (x := m1.2.2.1) (hbd rfl) (ldS_ext (x := m1.2.2.2.1) (hbd rfl) (ldS_ext (x := m1.2.2.2.2.1) (hbd rfl) (ldS_ext (x := m1.2.2.2.2.2) (hbd rfl) ?_)))))
  refine LdST.blk (ts := LiA33) (pre := []) (post := []) (t := TF) (x := x) (fun w' hw => hw.blk (hD.get 2 rfl) id) rfl ?_
  rw [Int.toNat_natCast]
  refine ⟨by omega, by omega, ?_, ?_⟩
  · refine (c_string (g := g) (hT.keep E0) (h.keep E0) m1 hz).mono ?_
    rintro r m2 e w1 ⟨e1, L, hL, hv, ho⟩
    rw [h2] at hL
    cases hL
    refine mk_mx w1 m' fun w2 e2 hb2 => ?_
    exact ⟨r, w1.heap.size, rfl, e1.tr e2, hb2, hv.keep e2⟩
  · refine (Hn.start ws.drew).nw fun w1 K => ⟨K.ext, ?_⟩
    refine (c_string (g := g) (hT.keep (E0.tr K.ext)) (h.keep (E0.tr K.ext)) m1 hz).mono ?_
    rintro r m2 e w2 ⟨e2, L, hL, hv, ho⟩
    rw [h2] at hL
    cases hL
    have K2 := K.keep e2
    refine st_mx (m := noM) (K2.get 0 rfl) m' fun w3 e3 hb3 => ?_
    exact ⟨r, ws.drew.heap.size, rfl, ext_new K2.ext e3 fun j hj => Nat.le_of_eq hj.symm, hb3, hv.keepF e3 fun j hj e => by
      have h1 := ho j hj
      have h2 := K.lt 0 rfl
      omega⟩
/-- Both parts. -/
theorem w_J4 {vw6 vw7 : World} {s : ByteArray} {k : Nat} {L : List GlT} {m m' : Mx} (hT : TB w) (h : FoV w x f) (hs : s.size ≤ 1048576) (hk : k ≤ s.size) (hw : f.wide = true → k % 2 = 0)
    (H : Hn w ws [(w.heap.size, grl g, TG), (vw6.heap.size, mrow m, TM), (vw7.heap.size, fol x, TF), (vw98.heap.size, mrow m', TM)]) (hr : VRow ws r95 9 (L.flatMap glc)) (hl : L.length ≤ 1048576) (h2 : stringF g m f s = (L, m', 0)) :
    S3J4 w s (k : Int) vw6 vw7 r95 vw98 (fun r w1 => r = true ∧ Ext (fun _ => False) w w1) () ws := by
  unfold S3J4
  obtain ⟨La, Lb, m1, q1, q2, rfl⟩ := string_cut h2 hk hw
  have hD := H.drew
  have E0 := hD.ext
  have hz : (s.extract 0 k).size ≤ 1048576 := by rw [ByteArray.size_extract]; omega
  refine ⟨fun st w1 => ∃ ra bb, st = (ra, ⟨bb, 0, none⟩, 0) ∧ Ext (fun _ => False) ws.drew w1 ∧ Blk w1 bb (mrow m1).toArray TM ∧ VRow w1 ra 9 (La.flatMap glc), ?_, ?_⟩
  · rintro _ w1 ⟨ra, bb, rfl, e1, hbb, hva⟩
    have ed := (Ext.refl (fun _ => False) ws).drew.tr e1
    exact w_J3 hT h hs hk (hD.keep e1) hbb (hr.keep ed) hva hl q2
  have cl : ∀ {j : Nat} {v : Value}, (mrow m)[j]? = some v → ws.drew.cell? ⟨vw6.heap.size, j, none⟩ = some v := fun {j v} hj => by
    rw [(hD.get 1 rfl).cell, List.getElem?_toArray]
    exact hj
  refine ⟨Ext (fun _ => False) ws.drew, Ext.refl _ _, ?_⟩
  refine LdST.blk (ts := LiA29) (pre := []) (post := []) (t := TG) (x := g) (fun w' hw => hw.blk (hD.get 0 rfl) id) rfl ?_
  refine ldS_ext (x := m.1) (cl rfl) (ldS_ext (x := m.2.1) (cl rfl) (ldS_ext (x := m.2.2.1) (cl rfl) (ldS_ext (x := m.2.2.2.1) (cl rfl) (ldS_ext (x := m.2.2.2.2.1) (cl rfl) (ldS_ext (x := m.2.2.2.2.2) (cl rfl) ?_)))))
  refine LdST.blk (ts := LiA33) (pre := []) (post := []) (t := TF) (x := x) (fun w' hw => hw.blk (hD.get 2 rfl) id) rfl ?_
  rw [Int.toNat_natCast]
  refine ⟨by omega, by omega, ?_, ?_⟩
  · refine (c_string (g := g) (hT.keep E0) (h.keep E0) m hz).mono ?_
    rintro r m2 e w1 ⟨e1, L, hL, hv, ho⟩
    rw [q1] at hL
    cases hL
    refine mk_mx w1 m1 fun w2 e2 hb2 => ?_
    exact ⟨r, w1.heap.size, rfl, e1.tr e2, hb2, hv.keep e2⟩
  · refine (Hn.start ws.drew).nw fun w1 K => ⟨K.ext, ?_⟩
    refine (c_string (g := g) (hT.keep (E0.tr K.ext)) (h.keep (E0.tr K.ext)) m hz).mono ?_
    rintro r m2 e w2 ⟨e2, L, hL, hv, ho⟩
    rw [q1] at hL
    cases hL
    have K2 := K.keep e2
    refine st_mx (m := noM) (K2.get 0 rfl) m1 fun w3 e3 hb3 => ?_
    exact ⟨r, ws.drew.heap.size, rfl, ext_new K2.ext e3 fun j hj => Nat.le_of_eq hj.symm, hb3, hv.keepF e3 fun j hj e => by
      have h1 := ho j hj
      have h2 := K.lt 0 rfl
      omega⟩
end
end Sw
end Go.Proofs.YtcblpehnkogfdaaDoor
