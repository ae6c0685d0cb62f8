/- Shown strings: one glyph. Conditions: sizes, the laid tables. -/
import Derived.Test.YtcblpehnkogfdaaDoorSwB
namespace Go.Proofs.YtcblpehnkogfdaaDoor
namespace Sw
open Sh Mat Fix Fo
set_option linter.unusedVariables false
set_option linter.unusedSimpArgs false
set_option maxRecDepth 4000
set_option maxHeartbeats 4000000
attribute [local irreducible] Ld St Nw Nn Lt LdS
theorem mrow0 : ([.int .i64 0, .int .i64 0, .int .i64 0, .int .i64 0, .int .i64 0, .int .i64 0] : List Value) = mrow noM := rfl
theorem resM_yes {p : Option Mx} {r : Mx} (h : (r, (0 : Int)) = resM p) : p = some r := by
  cases p with
  | some q => cases h; rfl
  | none => cases h
theorem resM_no {p : Option Mx} {r : Mx} {e : Int} (h : (r, e) = resM p) (he : e ≠ 0) : p = none ∧ e = 2 := by
  cases p with
  | some q => cases h; exact absurd rfl he
  | none => cases h; exact ⟨rfl, rfl⟩
theorem resP_yes {p : Option (Int × Int)} {r : Int × Int} (h : (r, (0 : Int)) = resP p) : p = some r := by
  cases p with
  | some q => cases h; rfl
  | none => cases h
theorem resP_no {p : Option (Int × Int)} {r : Int × Int} {e : Int} (h : (r, e) = resP p) (he : e ≠ 0) : p = none ∧ e = 2 := by
  cases p with
  | some q => cases h; exact absurd rfl he
  | none => cases h; exact ⟨rfl, rfl⟩
theorem resI_yes {p : Option Int} {r : Int} (h : (r, (0 : Int)) = resI p) : p = some r := by
  cases p with
  | some q => cases h; rfl
  | none => cases h
theorem resI_no {p : Option Int} {r e : Int} (h : (r, e) = resI p) (he : e ≠ 0) : p = none ∧ e = 2 := by
  cases p with
  | some q => cases h; exact absurd rfl he
  | none => cases h; exact ⟨rfl, rfl⟩
theorem c_sign {w : World} {g : GT} {x : FT} {f : Font} (hT : TB w) (h : FoV w x f) (hm : mayF f = true) (hg : useG g = true) {code : Int} (hc : I64 code) (m : Mx) :
    C35 (hand g x) m code w (fun r r2 w1 => signP g f m code = some (r, r2) ∧ Ext (fun _ => False) w w1) fun v w1 => v = gup 2 ∧ signP g f m code = none ∧ Ext (fun _ => False) w w1 := by
  obtain ⟨g1, g2, g3, g4, g5, g6⟩ := useG_in hg
  refine T35 _ _ _ _ _ _ ?_
  unfold S35
  refine Nw.of ?_
  have H := ha_blk w g x
  generalize w.alloc (.cells (Sig.cells LiA60 (hand g x)).toArray 61) = wa at *
  refine H.nw fun w5 H => H.nw fun w6 H => H.nw fun w7 H => ?_
  refine H.ldT (i := 0) (pre := (Sig.cells LiA29 g).take 22) (post := [.string (x.1), .bool (x.2.1), .int .i64 (x.2.2.1), Slc.v (x.2.2.2.1), .int .i64 (x.2.2.2.2.1), Slc.v (x.2.2.2.2.2.1), Slc.v (x.2.2.2.2.2.2)]) (ts := LiA27) (x := tx g) rfl rfl ?_
  refine H.nw fun w9 H => ?_
  refine H.stT (i := 4) (pre := []) (post := []) (zs := [.int .i64 0, .int .i64 0, .int .i64 0, .int .i64 0, .int .i64 0, .int .i64 0, .string ⟨#[]⟩, .int .i64 0]) rfl rfl rfl fun w10 H => ?_
  refine H.ld 1 rfl (x := m.1) rfl (H.ld 1 rfl (x := m.2.1) rfl (H.ld 1 rfl (x := m.2.2.1) rfl (H.ld 1 rfl (x := m.2.2.2.1) rfl (H.ld 1 rfl (x := m.2.2.2.2.1) rfl (H.ld 1 rfl (x := m.2.2.2.2.2) rfl ?_)))))
  refine H.ld 0 rfl (x := g.1) rfl (H.ld 0 rfl (x := g.2.1) rfl (H.ld 0 rfl (x := g.2.2.1) rfl (H.ld 0 rfl (x := g.2.2.2.1) rfl (H.ld 0 rfl (x := g.2.2.2.2.1) rfl (H.ld 0 rfl (x := g.2.2.2.2.2.1) rfl ?_)))))
  refine (Mat.c_mul m (ctm g) _).mono ?_
  rintro all e w25 ⟨hall, e25⟩
  have H := H.keep e25
  refine (c_mustM all e _).mono (fun r w27 h27 => ?_) fun v w27 h27 => ?_
  case refine_2 =>
    obtain ⟨hn, rfl⟩ := resM_no hall h27.2.1
    exact ⟨h27.1, by unfold signP; rw [hn]; rfl, H.ext.tr h27.2.2⟩
  obtain ⟨rfl, rfl, e27⟩ := h27
  have hall := resM_yes hall
  have H := H.keep e27
  refine H.nw fun w28 H => ?_
  simp only [List.nil_append, List.cons_append, List.set_cons_zero, List.set_cons_succ, Nat.zero_add] at H
  iterate 6 (refine H.st 5 rfl (by simp) fun _ H => ?_; simp only [List.nil_append, List.cons_append, List.set_cons_zero, List.set_cons_succ, Nat.zero_add] at H)
  refine H.ldT (i := 0) (pre := []) (post := []) (ts := LiA60) (x := hand g x) rfl rfl ?_
  refine (c_wide (g := g) (h.keep H.ext) hm hc).mono (fun wd w37 h37 => ?_) fun v w37 h37 => ?_
  case refine_2 => exact ⟨h37.1, by unfold signP; rw [hall]; show Option.bind (widthP g f code) _ = _; rw [h37.2.1]; rfl, H.ext.tr h37.2.2⟩
  obtain ⟨hwd, e37⟩ := h37
  have H := H.keep e37
  refine H.ldT (i := 0) (pre := []) (post := []) (ts := LiA60) (x := hand g x) rfl rfl ?_
  refine (c_scaled x (mulO_in hwd) g4 _).mono (fun en w40 h40 => ?_) fun v w40 h40 => ?_
  case refine_2 => exact ⟨h40.1, by unfold signP; rw [hall]; show Option.bind (widthP g f code) _ = _; rw [hwd]; show Option.bind (scaledP g wd) _ = _; rw [h40.2.1]; rfl, H.ext.tr h40.2.2⟩
  obtain ⟨hen, e40⟩ := h40
  have H := (H.keep e40).drew
  have hsg : signP g f m code = (applyP r (0, trise g)).bind fun a => (applyP r (en, trise g)).bind fun b =>
      (lenO r (0, tsize g)).bind fun hi => (stepP g f code wd).bind fun st => (mulP (moveM st 0) m).bind fun m' => some ((code, ⟨(sayF f code).toArray⟩, a.1, a.2, b.1, b.2, hi, tfont g, tmode g), m') := by
    unfold signP
    rw [hall]
    show Option.bind (widthP g f code) _ = _
    rw [hwd]
    show Option.bind (scaledP g wd) _ = _
    rw [hen]
    rfl
  have n1 : applyP r (0, trise g) = none → signP g f m code = none := fun e => by rw [hsg, e]; rfl
  have n2 : applyP r (en, trise g) = none → signP g f m code = none := fun e => by
    rw [hsg, e]
    cases applyP r (0, trise g) <;> rfl
  have n3 : lenO r (0, tsize g) = none → signP g f m code = none := fun e => by
    rw [hsg, e]
    cases applyP r (0, trise g)
    · rfl
    · cases applyP r (en, trise g) <;> rfl
  have H0 := H
  have E0 := H0.ext
  have cl : ∀ {i b j : Nat} {cs : List Value} {t : TypeId} {v : Value}, _ = some (b, cs, t) → cs[j]? = some v → w40.drew.cell? ⟨b, j, none⟩ = some v := fun {i b j cs t v} hi hj => by
    rw [(H0.get i hi).cell, List.getElem?_toArray]
    exact hj
  refine ⟨fun s ws => ∃ (a b : Int × Int) (hi : Int) (bk : Nat), applyP r (0, trise g) = some a ∧ applyP r (en, trise g) = some b ∧ lenO r (0, tsize g) = some hi ∧ s = ⟨bk, 0, none⟩ ∧ Ext (fun _ => False) w40.drew ws ∧
    Blk ws bk (Sig.cells LiA44 (code, ⟨(sayF f code).toArray⟩, a.1, a.2, b.1, b.2, hi, tfont g, tmode g)).toArray 45, ?_, ?_⟩
  case refine_1 =>
    rintro s ws ⟨a, b, hi, bk, ha, hb, hh, rfl, es, hbk⟩
    unfold S35J1
    have H := (H0.keep es).drew
    have hbk : Blk ws.drew bk _ _ := hbk.drew
    have E1 := H.ext
    have cl : ∀ {i b j : Nat} {cs : List Value} {t : TypeId} {v : Value}, _ = some (b, cs, t) → cs[j]? = some v → ws.drew.cell? ⟨b, j, none⟩ = some v := fun {i b j cs t v} hi hj => by
      rw [(H.get i hi).cell, List.getElem?_toArray]
      exact hj
    refine ⟨Ext (fun _ => False) ws.drew, Ext.refl _ _, LdST.blk (ts := LiA44) (pre := []) (post := []) (t := 45) (x := (code, ⟨(sayF f code).toArray⟩, a.1, a.2, b.1, b.2, hi, tfont g, tmode g)) (fun w' hw => hw.blk hbk id) rfl ?_⟩
    refine LdST.blk (ts := LiA60) (pre := []) (post := []) (t := 61) (x := hand g x) (fun w' hw => hw.blk (H.get 0 rfl) id) rfl ?_
    refine ldS_ext (x := m.1) (cl (i := 1) rfl rfl) (ldS_ext (x := m.2.1) (cl (i := 1) rfl rfl) (ldS_ext (x := m.2.2.1) (cl (i := 1) rfl rfl) (ldS_ext (x := m.2.2.2.1) (cl (i := 1) rfl rfl) (ldS_ext (x := m.2.2.2.2.1) (cl (i := 1) rfl rfl) (ldS_ext (x := m.2.2.2.2.2) (cl (i := 1) rfl rfl) ?_)))))
    have hsg2 : signP g f m code = (stepP g f code wd).bind fun st => (mulP (moveM st 0) m).bind fun m' => some ((code, ⟨(sayF f code).toArray⟩, a.1, a.2, b.1, b.2, hi, tfont g, tmode g), m') := by
      rw [hsg, ha, hb, hh]
      rfl
    refine (c_step (g := g) (h.keep E1) g4).mono (fun st w179 h179 => ?_) fun v w179 h179 => ⟨h179.1, by rw [hsg2, h179.2.1]; rfl, E1.tr h179.2.2⟩
    obtain ⟨hst, e179⟩ := h179
    refine ⟨e179, (c_move st 0 _).mono ?_⟩
    rintro mv w181 ⟨rfl, e181⟩
    refine ⟨e179.tr e181, (Mat.c_mul (moveM st 0) m _).mono ?_⟩
    rintro nx e w184 ⟨hnx, e184⟩
    have e3 := (e179.tr e181).tr e184
    refine ⟨e3, (c_mustM nx e _).mono (fun r2 w186 h186 => ?_) fun v w186 h186 => ?_⟩
    case refine_2 =>
      obtain ⟨hn, rfl⟩ := resM_no hnx h186.2.1
      exact ⟨h186.1, by rw [hsg2, hst]; show Option.bind (mulP (moveM st 0) m) _ = _; rw [hn]; rfl, (E1.tr e3).tr h186.2.2⟩
    obtain ⟨rfl, rfl, e186⟩ := h186
    have hnx := resM_yes hnx
    have H := H.keep (e3.tr e186)
    refine ⟨e3.tr e186, H.stT (i := 2) (ts := LiA44) (pre := []) (post := []) (zs := [.int .i64 0, .string ⟨#[]⟩, .int .i64 0, .int .i64 0, .int .i64 0, .int .i64 0, .int .i64 0, .string ⟨#[]⟩, .int .i64 0]) rfl rfl rfl fun w187 H => ?_⟩
    simp only [List.nil_append, List.cons_append, List.set_cons_zero, List.set_cons_succ, Nat.zero_add] at H
    iterate 6 (refine H.st 3 rfl (by simp) fun _ H => ?_; simp only [List.nil_append, List.cons_append, List.set_cons_zero, List.set_cons_succ, Nat.zero_add] at H)
    refine H.ldT (i := 2) (ts := LiA44) (pre := []) (post := []) (x := (code, ⟨(sayF f code).toArray⟩, a.1, a.2, b.1, b.2, hi, tfont g, tmode g)) rfl rfl ?_
    iterate 6 refine H.ld 3 rfl rfl ?_
    exact ⟨by rw [hsg2, hst]; show Option.bind (mulP (moveM st 0) m) _ = _; rw [hnx]; rfl, H.ext⟩
  have fin : ∀ {a b : Int × Int} {hi : Int} {ws : World} {bk : Nat}, applyP r (0, trise g) = some a → applyP r (en, trise g) = some b → lenO r (0, tsize g) = some hi →
      Hn w40.drew ws [(bk, Sig.cells LiA44 (code, ⟨(sayF f code).toArray⟩, a.1, a.2, b.1, b.2, hi, tfont g, tmode g), 45)] → ∃ (a b : Int × Int) (hi : Int) (bk' : Nat), applyP r (0, trise g) = some a ∧ applyP r (en, trise g) = some b ∧ lenO r (0, tsize g) = some hi ∧ (⟨bk, 0, none⟩ : Addr) = ⟨bk', 0, none⟩ ∧ Ext (fun _ => False) w40.drew ws ∧
      Blk ws bk' (Sig.cells LiA44 (code, ⟨(sayF f code).toArray⟩, a.1, a.2, b.1, b.2, hi, tfont g, tmode g)).toArray 45 := fun {a b hi ws bk} ha hb hh H => ⟨a, b, hi, bk, ha, hb, hh, rfl, H.ext, H.get 0 rfl⟩
  refine ⟨Ext (fun _ => False) w40.drew, Ext.refl _ _, ?_⟩
  refine LdST.blk (ts := LiA33) (pre := [.int .i64 (g.1), .int .i64 (g.2.1), .int .i64 (g.2.2.1), .int .i64 (g.2.2.2.1), .int .i64 (g.2.2.2.2.1), .int .i64 (g.2.2.2.2.2.1), .int .i64 (g.2.2.2.2.2.2.1), .int .i64 (g.2.2.2.2.2.2.2.1), .int .i64 (g.2.2.2.2.2.2.2.2.1), .int .i64 (g.2.2.2.2.2.2.2.2.2.1), Slc.v (g.2.2.2.2.2.2.2.2.2.2.1), .int .i64 (g.2.2.2.2.2.2.2.2.2.2.2.1), .int .i64 (g.2.2.2.2.2.2.2.2.2.2.2.2.1), .int .i64 (g.2.2.2.2.2.2.2.2.2.2.2.2.2.1), .int .i64 (g.2.2.2.2.2.2.2.2.2.2.2.2.2.2.1), .int .i64 (g.2.2.2.2.2.2.2.2.2.2.2.2.2.2.2.1), .int .i64 (g.2.2.2.2.2.2.2.2.2.2.2.2.2.2.2.2.1), .int .i64 (g.2.2.2.2.2.2.2.2.2.2.2.2.2.2.2.2.2.1), .int .i64 (g.2.2.2.2.2.2.2.2.2.2.2.2.2.2.2.2.2.2.1), .int .i64 (g.2.2.2.2.2.2.2.2.2.2.2.2.2.2.2.2.2.2.2.1), .int .i64 (g.2.2.2.2.2.2.2.2.2.2.2.2.2.2.2.2.2.2.2.2.1), .int .i64 (g.2.2.2.2.2.2.2.2.2.2.2.2.2.2.2.2.2.2.2.2.2.1), .int .i64 (g.2.2.2.2.2.2.2.2.2.2.2.2.2.2.2.2.2.2.2.2.2.2.1), .int .i64 (g.2.2.2.2.2.2.2.2.2.2.2.2.2.2.2.2.2.2.2.2.2.2.2.1), .int .i64 (g.2.2.2.2.2.2.2.2.2.2.2.2.2.2.2.2.2.2.2.2.2.2.2.2.1), .int .i64 (g.2.2.2.2.2.2.2.2.2.2.2.2.2.2.2.2.2.2.2.2.2.2.2.2.2.1), .int .i64 (g.2.2.2.2.2.2.2.2.2.2.2.2.2.2.2.2.2.2.2.2.2.2.2.2.2.2.1), .int .i64 (g.2.2.2.2.2.2.2.2.2.2.2.2.2.2.2.2.2.2.2.2.2.2.2.2.2.2.2.1), .string (g.2.2.2.2.2.2.2.2.2.2.2.2.2.2.2.2.2.2.2.2.2.2.2.2.2.2.2.2.1), .int .i64 (g.2.2.2.2.2.2.2.2.2.2.2.2.2.2.2.2.2.2.2.2.2.2.2.2.2.2.2.2.2)]) (post := []) (t := 61) (x := x) (fun w' hw => hw.blk (H0.get 0 rfl) id) rfl ?_
  refine ldS_ext (x := r.1) (cl (i := 5) rfl rfl) (ldS_ext (x := r.2.1) (cl (i := 5) rfl rfl) (ldS_ext (x := r.2.2.1) (cl (i := 5) rfl rfl) (ldS_ext (x := r.2.2.2.1) (cl (i := 5) rfl rfl) (ldS_ext (x := r.2.2.2.2.1) (cl (i := 5) rfl rfl) (ldS_ext (x := r.2.2.2.2.2) (cl (i := 5) rfl rfl) ?_)))))
  refine ldS_ext (x := trise g) (cl (i := 4) rfl rfl) ?_
  refine ldS_ext (x := r.1) (cl (i := 5) rfl rfl) (ldS_ext (x := r.2.1) (cl (i := 5) rfl rfl) (ldS_ext (x := r.2.2.1) (cl (i := 5) rfl rfl) (ldS_ext (x := r.2.2.2.1) (cl (i := 5) rfl rfl) (ldS_ext (x := r.2.2.2.2.1) (cl (i := 5) rfl rfl) (ldS_ext (x := r.2.2.2.2.2) (cl (i := 5) rfl rfl) ?_)))))
  refine ldS_ext (x := trise g) (cl (i := 4) rfl rfl) ?_
  refine ldS_ext (x := r.1) (cl (i := 5) rfl rfl) (ldS_ext (x := r.2.1) (cl (i := 5) rfl rfl) (ldS_ext (x := r.2.2.1) (cl (i := 5) rfl rfl) (ldS_ext (x := r.2.2.2.1) (cl (i := 5) rfl rfl) (ldS_ext (x := r.2.2.2.2.1) (cl (i := 5) rfl rfl) (ldS_ext (x := r.2.2.2.2.2) (cl (i := 5) rfl rfl) ?_)))))
  refine ldS_ext (x := tsize g) (cl (i := 4) rfl rfl) (ldS_ext (x := tfont g) (cl (i := 4) rfl rfl) (ldS_ext (x := tmode g) (cl (i := 4) rfl rfl) ?_))
  have hsay : ∀ {L : List (Nat × List Value × TypeId)} {wb : World} {K : ByteArray → World → Prop}, Hn w40.drew wb L → (∀ w1, Hn w40.drew w1 L → K ⟨(sayF f code).toArray⟩ w1) → C12 x code wb K := fun {L wb K} H k =>
    (c_say (hT.keep (E0.tr H.ext)) (h.keep (E0.tr H.ext)) code).mono fun r w1 h1 => by rw [h1.1]; exact k w1 (H.keep h1.2)
  have happ : ∀ (p : Int × Int) {L : List (Nat × List Value × TypeId)} {wb : World} {K : Int × Int → Int → World → Prop}, Hn w40.drew wb L → (∀ q e w1, (q, e) = resP (applyP r p) → Hn w40.drew w1 L → K q e w1) → C10 r p wb K := fun p {L wb K} H k =>
    (c_apply r p wb).mono fun q e w1 h1 => k q e w1 h1.1 (H.keep h1.2)
  have hlen : ∀ {L : List (Nat × List Value × TypeId)} {wb : World} {K : Int → Int → World → Prop}, Hn w40.drew wb L → (∀ q e w1, (q, e) = resI (lenO r (0, tsize g)) → Hn w40.drew w1 L → K q e w1) → C53 r (0, tsize g) wb K := fun {L wb K} H k =>
    (c_length r (0, tsize g) wb).mono fun q e w1 h1 => k q e w1 (lenO_eq h1.1) (H.keep h1.2)
  have hmust : ∀ {p : Option (Int × Int)} {q : Int × Int} {e : Int} {L : List (Nat × List Value × TypeId)} {wb : World} {K : Int × Int → World → Prop}, (q, e) = resP p → (p = none → signP g f m code = none) → Hn w40.drew wb L → (∀ a w1, p = some a → Hn w40.drew w1 L → K a w1) →
      C52 q e wb K (fun v w1 => v = gup 2 ∧ signP g f m code = none ∧ Ext (fun _ => False) w w1) := fun {p q e L wb K} hr n H k =>
    (c_mustP q e wb).mono (fun q2 w1 h1 => by
      obtain ⟨rfl, rfl, e1⟩ := h1
      exact k _ w1 (resP_yes hr) (H.keep e1)) fun v w1 h1 => by
      obtain ⟨hn, rfl⟩ := resP_no hr h1.2.1
      exact ⟨h1.1, n hn, E0.tr (H.ext.tr h1.2.2)⟩
  have hmusi : ∀ {p : Option Int} {q : Int} {e : Int} {L : List (Nat × List Value × TypeId)} {wb : World} {K : Int → World → Prop}, (q, e) = resI p → (p = none → signP g f m code = none) → Hn w40.drew wb L → (∀ a w1, p = some a → Hn w40.drew w1 L → K a w1) →
      C43 q e wb K (fun v w1 => v = gup 2 ∧ signP g f m code = none ∧ Ext (fun _ => False) w w1) := fun {p q e L wb K} hr n H k =>
    (c_mustI q e wb).mono (fun q2 w1 h1 => by
      obtain ⟨rfl, rfl, rfl⟩ := h1
      exact k _ w1 (resI_yes hr) H) fun v w1 h1 => by
      obtain ⟨hn, rfl⟩ := resI_no hr h1.2.1
      exact ⟨h1.1, n hn, by rw [h1.2.2]; exact E0.tr H.ext⟩
  have H := Hn.start w40.drew
  refine ⟨?_, ?_⟩
  · refine hsay H fun w1 H => ⟨H.ext, ?_⟩
    refine ⟨?_, ?_⟩
    · refine happ _ H fun r e w1 hr H => ⟨H.ext, ?_⟩
      refine ⟨?_, ?_⟩
      · refine hmust hr n1 H fun a w1 ha H => ⟨H.ext, ?_⟩
        refine ⟨?_, ?_⟩
        · refine happ _ H fun r e w1 hr H => ⟨H.ext, ?_⟩
          refine ⟨?_, ?_⟩
          · refine hmust hr n2 H fun b w1 hb H => ⟨H.ext, ?_⟩
            refine ⟨?_, ?_⟩
            · refine hlen H fun r e w1 hr H => ⟨H.ext, ?_⟩
              refine ⟨?_, ?_⟩
              · refine hmusi hr n3 H fun hi w1 hh H => ⟨H.ext, ?_⟩
                refine H.nw fun w1 H => ⟨H.ext, ?_⟩
                refine H.stT (i := 0) (ts := LiA44) (pre := []) (post := []) (zs := [.int .i64 0, .string ⟨#[]⟩, .int .i64 0, .int .i64 0, .int .i64 0, .int .i64 0, .int .i64 0, .string ⟨#[]⟩, .int .i64 0]) rfl rfl rfl fun w1 H => ?_
                exact fin ha hb hh H
              · refine H.nw fun w1 H => ⟨H.ext, ?_⟩
                refine hmusi hr n3 H fun hi w1 hh H => ⟨H.ext, ?_⟩
                refine H.stT (i := 0) (ts := LiA44) (pre := []) (post := []) (zs := [.int .i64 0, .string ⟨#[]⟩, .int .i64 0, .int .i64 0, .int .i64 0, .int .i64 0, .int .i64 0, .string ⟨#[]⟩, .int .i64 0]) rfl rfl rfl fun w1 H => ?_
                exact fin ha hb hh H
            · refine H.nw fun w1 H => ⟨H.ext, ?_⟩
              refine hlen H fun r e w1 hr H => ⟨H.ext, ?_⟩
              refine hmusi hr n3 H fun hi w1 hh H => ⟨H.ext, ?_⟩
              refine H.stT (i := 0) (ts := LiA44) (pre := []) (post := []) (zs := [.int .i64 0, .string ⟨#[]⟩, .int .i64 0, .int .i64 0, .int .i64 0, .int .i64 0, .int .i64 0, .string ⟨#[]⟩, .int .i64 0]) rfl rfl rfl fun w1 H => ?_
              exact fin ha hb hh H
          · refine H.nw fun w1 H => ⟨H.ext, ?_⟩
            refine hmust hr n2 H fun b w1 hb H => ⟨H.ext, ?_⟩
            refine hlen H fun r e w1 hr H => ⟨H.ext, ?_⟩
            refine hmusi hr n3 H fun hi w1 hh H => ⟨H.ext, ?_⟩
            refine H.stT (i := 0) (ts := LiA44) (pre := []) (post := []) (zs := [.int .i64 0, .string ⟨#[]⟩, .int .i64 0, .int .i64 0, .int .i64 0, .int .i64 0, .int .i64 0, .string ⟨#[]⟩, .int .i64 0]) rfl rfl rfl fun w1 H => ?_
            exact fin ha hb hh H
        · refine H.nw fun w1 H => ⟨H.ext, ?_⟩
          refine happ _ H fun r e w1 hr H => ⟨H.ext, ?_⟩
          refine hmust hr n2 H fun b w1 hb H => ⟨H.ext, ?_⟩
          refine hlen H fun r e w1 hr H => ⟨H.ext, ?_⟩
          refine hmusi hr n3 H fun hi w1 hh H => ⟨H.ext, ?_⟩
          refine H.stT (i := 0) (ts := LiA44) (pre := []) (post := []) (zs := [.int .i64 0, .string ⟨#[]⟩, .int .i64 0, .int .i64 0, .int .i64 0, .int .i64 0, .int .i64 0, .string ⟨#[]⟩, .int .i64 0]) rfl rfl rfl fun w1 H => ?_
          exact fin ha hb hh H
      · refine H.nw fun w1 H => ⟨H.ext, ?_⟩
        refine hmust hr n1 H fun a w1 ha H => ⟨H.ext, ?_⟩
        refine happ _ H fun r e w1 hr H => ⟨H.ext, ?_⟩
        refine hmust hr n2 H fun b w1 hb H => ⟨H.ext, ?_⟩
        refine hlen H fun r e w1 hr H => ⟨H.ext, ?_⟩
        refine hmusi hr n3 H fun hi w1 hh H => ⟨H.ext, ?_⟩
        refine H.stT (i := 0) (ts := LiA44) (pre := []) (post := []) (zs := [.int .i64 0, .string ⟨#[]⟩, .int .i64 0, .int .i64 0, .int .i64 0, .int .i64 0, .int .i64 0, .string ⟨#[]⟩, .int .i64 0]) rfl rfl rfl fun w1 H => ?_
        exact fin ha hb hh H
    · refine H.nw fun w1 H => ⟨H.ext, ?_⟩
      refine happ _ H fun r e w1 hr H => ⟨H.ext, ?_⟩
      refine hmust hr n1 H fun a w1 ha H => ⟨H.ext, ?_⟩
      refine happ _ H fun r e w1 hr H => ⟨H.ext, ?_⟩
      refine hmust hr n2 H fun b w1 hb H => ⟨H.ext, ?_⟩
      refine hlen H fun r e w1 hr H => ⟨H.ext, ?_⟩
      refine hmusi hr n3 H fun hi w1 hh H => ⟨H.ext, ?_⟩
      refine H.stT (i := 0) (ts := LiA44) (pre := []) (post := []) (zs := [.int .i64 0, .string ⟨#[]⟩, .int .i64 0, .int .i64 0, .int .i64 0, .int .i64 0, .int .i64 0, .string ⟨#[]⟩, .int .i64 0]) rfl rfl rfl fun w1 H => ?_
      exact fin ha hb hh H
  · refine H.nw fun w1 H => ⟨H.ext, ?_⟩
    refine hsay H fun w1 H => ⟨H.ext, ?_⟩
    refine happ _ H fun r e w1 hr H => ⟨H.ext, ?_⟩
    refine hmust hr n1 H fun a w1 ha H => ⟨H.ext, ?_⟩
    refine happ _ H fun r e w1 hr H => ⟨H.ext, ?_⟩
    refine hmust hr n2 H fun b w1 hb H => ⟨H.ext, ?_⟩
    refine hlen H fun r e w1 hr H => ⟨H.ext, ?_⟩
    refine hmusi hr n3 H fun hi w1 hh H => ⟨H.ext, ?_⟩
    refine H.stT (i := 0) (ts := LiA44) (pre := []) (post := []) (zs := [.int .i64 0, .string ⟨#[]⟩, .int .i64 0, .int .i64 0, .int .i64 0, .int .i64 0, .int .i64 0, .string ⟨#[]⟩, .int .i64 0]) rfl rfl rfl fun w1 H => ?_
    exact fin ha hb hh H
end Sw
end Go.Proofs.YtcblpehnkogfdaaDoor
