/- Shown strings: a text. Conditions: sizes, the laid tables. -/
import Derived.Test.YtcblpehnkogfdaaDoorSwC
namespace Go.Proofs.YtcblpehnkogfdaaDoor
namespace Sw
open Sh Mat Fix Fo
set_option linter.unusedVariables false
set_option linter.unusedSimpArgs false
set_option maxRecDepth 4000
set_option maxHeartbeats 4000000
attribute [local irreducible] Ld St Nw Nn Lt LdS
def glc (x : GlT) : List Value := Sig.cells LiA44 x
theorem glc_len (x : GlT) : (glc x).length = 9 := rfl
theorem glc_one (x : GlT) : ∀ v ∈ glc x, v.oneCell' = true := fun v hv => by
  simp only [glc, Sig.cells, List.mem_cons, List.not_mem_nil, or_false] at hv
  rcases hv with rfl | rfl | rfl | rfl | rfl | rfl | rfl | rfl | rfl <;> rfl
theorem elGl : El Tryd.prog 37 45 9 88 (.agg (glc (0, ⟨#[]⟩, 0, 0, 0, 0, 0, ⟨#[]⟩, 0)).toArray) := ⟨by kernel_rfl, by kernel_rfl, by kernel_rfl, by kernel_rfl, rfl⟩
theorem pairs_in : ∀ (l : By), ∀ c ∈ pairs l, 0 ≤ c ∧ c ≤ 65535
  | [], c, h => by cases h
  | [a], c, h => by cases h
  | a :: b :: r, c, h => by
    rcases List.mem_cons.1 h with rfl | h
    · have := a.toNat_lt
      have := b.toNat_lt
      omega
    · exact pairs_in r c h
theorem codes_in (wide : Bool) (s : ByteArray) : ∀ c ∈ (codesF wide s).1, 0 ≤ c ∧ c ≤ 65535 := fun c h => by
  unfold codesF at h
  split at h
  · obtain ⟨b, _, rfl⟩ := List.mem_map.1 h
    have := b.toNat_lt
    omega
  · split at h
    · cases h
    · exact pairs_in _ c h
theorem pairs_len : ∀ (l : By), 2 * (pairs l).length ≤ l.length
  | [] => by simp [pairs]
  | [a] => by simp [pairs]
  | a :: b :: r => by
    have := pairs_len r
    simp only [pairs, List.length_cons]
    omega
/-- The cells of a hand. -/
def hac (g : GT) (x : FT) : List Value := [.int .i64 (g.1), .int .i64 (g.2.1), .int .i64 (g.2.2.1), .int .i64 (g.2.2.2.1), .int .i64 (g.2.2.2.2.1), .int .i64 (g.2.2.2.2.2.1), .int .i64 (g.2.2.2.2.2.2.1), .int .i64 (g.2.2.2.2.2.2.2.1), .int .i64 (g.2.2.2.2.2.2.2.2.1), .int .i64 (g.2.2.2.2.2.2.2.2.2.1), Slc.v (g.2.2.2.2.2.2.2.2.2.2.1), .int .i64 (g.2.2.2.2.2.2.2.2.2.2.2.1), .int .i64 (g.2.2.2.2.2.2.2.2.2.2.2.2.1), .int .i64 (g.2.2.2.2.2.2.2.2.2.2.2.2.2.1), .int .i64 (g.2.2.2.2.2.2.2.2.2.2.2.2.2.2.1), .int .i64 (g.2.2.2.2.2.2.2.2.2.2.2.2.2.2.2.1), .int .i64 (g.2.2.2.2.2.2.2.2.2.2.2.2.2.2.2.2.1), .int .i64 (g.2.2.2.2.2.2.2.2.2.2.2.2.2.2.2.2.2.1), .int .i64 (g.2.2.2.2.2.2.2.2.2.2.2.2.2.2.2.2.2.2.1), .int .i64 (g.2.2.2.2.2.2.2.2.2.2.2.2.2.2.2.2.2.2.2.1), .int .i64 (g.2.2.2.2.2.2.2.2.2.2.2.2.2.2.2.2.2.2.2.2.1), .int .i64 (g.2.2.2.2.2.2.2.2.2.2.2.2.2.2.2.2.2.2.2.2.2.1), .int .i64 (g.2.2.2.2.2.2.2.2.2.2.2.2.2.2.2.2.2.2.2.2.2.2.1), .int .i64 (g.2.2.2.2.2.2.2.2.2.2.2.2.2.2.2.2.2.2.2.2.2.2.2.1), .int .i64 (g.2.2.2.2.2.2.2.2.2.2.2.2.2.2.2.2.2.2.2.2.2.2.2.2.1), .int .i64 (g.2.2.2.2.2.2.2.2.2.2.2.2.2.2.2.2.2.2.2.2.2.2.2.2.2.1), .int .i64 (g.2.2.2.2.2.2.2.2.2.2.2.2.2.2.2.2.2.2.2.2.2.2.2.2.2.2.1), .int .i64 (g.2.2.2.2.2.2.2.2.2.2.2.2.2.2.2.2.2.2.2.2.2.2.2.2.2.2.2.1), .string (g.2.2.2.2.2.2.2.2.2.2.2.2.2.2.2.2.2.2.2.2.2.2.2.2.2.2.2.2.1), .int .i64 (g.2.2.2.2.2.2.2.2.2.2.2.2.2.2.2.2.2.2.2.2.2.2.2.2.2.2.2.2.2), .string (x.1), .bool (x.2.1), .int .i64 (x.2.2.1), Slc.v (x.2.2.2.1), .int .i64 (x.2.2.2.2.1), Slc.v (x.2.2.2.2.2.1), Slc.v (x.2.2.2.2.2.2)]
section
variable {w : World} {g : GT} {x : FT} {f : Font}
theorem c_text (hT : TB w) (h : FoV w x f) (m : Mx) {s : ByteArray} (hs : s.size ≤ 1048576) :
    C15 (hand g x) m s w (fun r m2 w1 => askE g m f s = 0 ∧ Ext (fun _ => False) w w1 ∧ ∃ L, showP g f (codesF f.wide s).1 m = some (L, m2) ∧ VRow w1 r 9 (L.flatMap glc) ∧ ∀ j, r.own j → w.heap.size ≤ j)
      fun v w1 => ∃ e, v = gup e ∧ e ≠ 0 ∧ stringF g m f s = ([], noM, e) ∧ Ext (fun _ => False) w w1 := by
  refine T15 _ _ _ _ _ _ ?_
  unfold S15
  refine Nw.of ?_
  have H := ha_blk w g x
  generalize w.alloc (.cells (Sig.cells LiA60 (hand g x)).toArray 61) = wa at *
  refine H.nw fun w5 H => H.nw fun w6 H => ?_
  have ask : ∀ e, askE g m f s = e → e ≠ 0 → stringF g m f s = ([], noM, e) := fun e he h0 => by
    unfold stringF
    rw [he, if_pos h0]
  refine H.ldT (i := 0) (pre := []) (post := [.string (x.1), .bool (x.2.1), .int .i64 (x.2.2.1), Slc.v (x.2.2.2.1), .int .i64 (x.2.2.2.2.1), Slc.v (x.2.2.2.2.2.1), Slc.v (x.2.2.2.2.2.2)]) (ts := LiA29) (x := g) rfl rfl ?_
  refine (c_use g _).mono (fun w8 h8 => ?_) fun v w8 h8 => ⟨2, h8.1, by decide, ask 2 (by unfold askE; rw [if_pos (.inl h8.2.1)]) (by decide), H.ext.tr h8.2.2⟩
  obtain ⟨hg, e8⟩ := h8
  have H := (H.keep e8).drew
  have cl : ∀ {j : Nat} {v : Value}, (mrow m)[j]? = some v → w8.drew.cell? ⟨wa.heap.size, j, none⟩ = some v := fun {j v} hj => by
    rw [(H.get 1 rfl).cell, List.getElem?_toArray]
    exact hj
  refine ⟨Ext (fun _ => False) w8.drew, Ext.refl _ _, ?_⟩
  refine ldS_ext (x := m.1) (cl rfl) (ldS_ext (x := m.2.1) (cl rfl) (ldS_ext (x := m.2.2.1) (cl rfl) (ldS_ext (x := m.2.2.2.1) (cl rfl) (ldS_ext (x := m.2.2.2.2.1) (cl rfl) (ldS_ext (x := m.2.2.2.2.2) (cl rfl) ?_)))))
  refine ldS_ext (x := m.1) (cl rfl) (ldS_ext (x := m.2.1) (cl rfl) (ldS_ext (x := m.2.2.1) (cl rfl) (ldS_ext (x := m.2.2.2.1) (cl rfl) (ldS_ext (x := m.2.2.2.2.1) (cl rfl) (ldS_ext (x := m.2.2.2.2.2) (cl rfl) ?_)))))
  refine (Mat.c_check m _).mono ?_
  rintro r w23 ⟨rfl, e23⟩
  refine ⟨e23, (c_mustM m _ _).mono (fun r w25 h25 => ?_) fun v w25 h25 => ?_⟩
  case refine_2 =>
    obtain ⟨rfl, h0, e25⟩ := h25
    have hm : Mat.okM m = false := by
      cases hm : Mat.okM m with
      | false => rfl
      | true => rw [hm] at h0; exact absurd rfl h0
    exact ⟨2, by rw [hm]; rfl, by decide, ask 2 (by unfold askE; rw [if_pos (.inr hm)]) (by decide), (H.ext.tr e23).tr e25⟩
  obtain ⟨rfl, h0, e25⟩ := h25
  have hm : Mat.okM r = true := by
    cases hm : Mat.okM r with
    | true => rfl
    | false => rw [hm] at h0; cases h0
  have H := ((H.keep e23).keep e25).drew
  have E0 := H.ext
  refine ⟨Ext (fun _ => False) w25.drew, Ext.refl _ _, ?_⟩
  refine LdST.blk (ts := LiA33) (pre := [.int .i64 (g.1), .int .i64 (g.2.1), .int .i64 (g.2.2.1), .int .i64 (g.2.2.2.1), .int .i64 (g.2.2.2.2.1), .int .i64 (g.2.2.2.2.2.1), .int .i64 (g.2.2.2.2.2.2.1), .int .i64 (g.2.2.2.2.2.2.2.1), .int .i64 (g.2.2.2.2.2.2.2.2.1), .int .i64 (g.2.2.2.2.2.2.2.2.2.1), Slc.v (g.2.2.2.2.2.2.2.2.2.2.1), .int .i64 (g.2.2.2.2.2.2.2.2.2.2.2.1), .int .i64 (g.2.2.2.2.2.2.2.2.2.2.2.2.1), .int .i64 (g.2.2.2.2.2.2.2.2.2.2.2.2.2.1), .int .i64 (g.2.2.2.2.2.2.2.2.2.2.2.2.2.2.1), .int .i64 (g.2.2.2.2.2.2.2.2.2.2.2.2.2.2.2.1), .int .i64 (g.2.2.2.2.2.2.2.2.2.2.2.2.2.2.2.2.1), .int .i64 (g.2.2.2.2.2.2.2.2.2.2.2.2.2.2.2.2.2.1), .int .i64 (g.2.2.2.2.2.2.2.2.2.2.2.2.2.2.2.2.2.2.1), .int .i64 (g.2.2.2.2.2.2.2.2.2.2.2.2.2.2.2.2.2.2.2.1), .int .i64 (g.2.2.2.2.2.2.2.2.2.2.2.2.2.2.2.2.2.2.2.2.1), .int .i64 (g.2.2.2.2.2.2.2.2.2.2.2.2.2.2.2.2.2.2.2.2.2.1), .int .i64 (g.2.2.2.2.2.2.2.2.2.2.2.2.2.2.2.2.2.2.2.2.2.2.1), .int .i64 (g.2.2.2.2.2.2.2.2.2.2.2.2.2.2.2.2.2.2.2.2.2.2.2.1), .int .i64 (g.2.2.2.2.2.2.2.2.2.2.2.2.2.2.2.2.2.2.2.2.2.2.2.2.1), .int .i64 (g.2.2.2.2.2.2.2.2.2.2.2.2.2.2.2.2.2.2.2.2.2.2.2.2.2.1), .int .i64 (g.2.2.2.2.2.2.2.2.2.2.2.2.2.2.2.2.2.2.2.2.2.2.2.2.2.2.1), .int .i64 (g.2.2.2.2.2.2.2.2.2.2.2.2.2.2.2.2.2.2.2.2.2.2.2.2.2.2.2.1), .string (g.2.2.2.2.2.2.2.2.2.2.2.2.2.2.2.2.2.2.2.2.2.2.2.2.2.2.2.2.1), .int .i64 (g.2.2.2.2.2.2.2.2.2.2.2.2.2.2.2.2.2.2.2.2.2.2.2.2.2.2.2.2.2)]) (post := []) (t := 61) (x := x) (fun w' hw => hw.blk (H.get 0 rfl) id) rfl ?_
  refine LdST.blk (ts := LiA33) (pre := [.int .i64 (g.1), .int .i64 (g.2.1), .int .i64 (g.2.2.1), .int .i64 (g.2.2.2.1), .int .i64 (g.2.2.2.2.1), .int .i64 (g.2.2.2.2.2.1), .int .i64 (g.2.2.2.2.2.2.1), .int .i64 (g.2.2.2.2.2.2.2.1), .int .i64 (g.2.2.2.2.2.2.2.2.1), .int .i64 (g.2.2.2.2.2.2.2.2.2.1), Slc.v (g.2.2.2.2.2.2.2.2.2.2.1), .int .i64 (g.2.2.2.2.2.2.2.2.2.2.2.1), .int .i64 (g.2.2.2.2.2.2.2.2.2.2.2.2.1), .int .i64 (g.2.2.2.2.2.2.2.2.2.2.2.2.2.1), .int .i64 (g.2.2.2.2.2.2.2.2.2.2.2.2.2.2.1), .int .i64 (g.2.2.2.2.2.2.2.2.2.2.2.2.2.2.2.1), .int .i64 (g.2.2.2.2.2.2.2.2.2.2.2.2.2.2.2.2.1), .int .i64 (g.2.2.2.2.2.2.2.2.2.2.2.2.2.2.2.2.2.1), .int .i64 (g.2.2.2.2.2.2.2.2.2.2.2.2.2.2.2.2.2.2.1), .int .i64 (g.2.2.2.2.2.2.2.2.2.2.2.2.2.2.2.2.2.2.2.1), .int .i64 (g.2.2.2.2.2.2.2.2.2.2.2.2.2.2.2.2.2.2.2.2.1), .int .i64 (g.2.2.2.2.2.2.2.2.2.2.2.2.2.2.2.2.2.2.2.2.2.1), .int .i64 (g.2.2.2.2.2.2.2.2.2.2.2.2.2.2.2.2.2.2.2.2.2.2.1), .int .i64 (g.2.2.2.2.2.2.2.2.2.2.2.2.2.2.2.2.2.2.2.2.2.2.2.1), .int .i64 (g.2.2.2.2.2.2.2.2.2.2.2.2.2.2.2.2.2.2.2.2.2.2.2.2.1), .int .i64 (g.2.2.2.2.2.2.2.2.2.2.2.2.2.2.2.2.2.2.2.2.2.2.2.2.2.1), .int .i64 (g.2.2.2.2.2.2.2.2.2.2.2.2.2.2.2.2.2.2.2.2.2.2.2.2.2.2.1), .int .i64 (g.2.2.2.2.2.2.2.2.2.2.2.2.2.2.2.2.2.2.2.2.2.2.2.2.2.2.2.1), .string (g.2.2.2.2.2.2.2.2.2.2.2.2.2.2.2.2.2.2.2.2.2.2.2.2.2.2.2.2.1), .int .i64 (g.2.2.2.2.2.2.2.2.2.2.2.2.2.2.2.2.2.2.2.2.2.2.2.2.2.2.2.2.2)]) (post := []) (t := 61) (x := x) (fun w' hw => hw.blk (H.get 0 rfl) id) rfl ?_
  refine (c_chk (hT.keep E0) (h.keep E0)).mono ?_
  rintro r2 w30 ⟨rfl, e30⟩
  refine ⟨e30, (c_mustF x _ _).mono (fun r3 w32 h32 => ?_) fun v w32 h32 => ?_⟩
  case refine_2 =>
    obtain ⟨rfl, hk, e32⟩ := h32
    exact ⟨_, rfl, hk, ask _ (by unfold askE; rw [if_neg (by simp [hg, hm]), if_pos hk]) hk, (E0.tr e30).tr e32⟩
  obtain ⟨rfl, hk, e32⟩ := h32
  have hmay := chk_may hk
  have H := (H.keep e30).keep e32
  refine H.ldT (i := 0) (pre := [.int .i64 (g.1), .int .i64 (g.2.1), .int .i64 (g.2.2.1), .int .i64 (g.2.2.2.1), .int .i64 (g.2.2.2.2.1), .int .i64 (g.2.2.2.2.2.1), .int .i64 (g.2.2.2.2.2.2.1), .int .i64 (g.2.2.2.2.2.2.2.1), .int .i64 (g.2.2.2.2.2.2.2.2.1), .int .i64 (g.2.2.2.2.2.2.2.2.2.1), Slc.v (g.2.2.2.2.2.2.2.2.2.2.1), .int .i64 (g.2.2.2.2.2.2.2.2.2.2.2.1), .int .i64 (g.2.2.2.2.2.2.2.2.2.2.2.2.1), .int .i64 (g.2.2.2.2.2.2.2.2.2.2.2.2.2.1), .int .i64 (g.2.2.2.2.2.2.2.2.2.2.2.2.2.2.1), .int .i64 (g.2.2.2.2.2.2.2.2.2.2.2.2.2.2.2.1), .int .i64 (g.2.2.2.2.2.2.2.2.2.2.2.2.2.2.2.2.1), .int .i64 (g.2.2.2.2.2.2.2.2.2.2.2.2.2.2.2.2.2.1), .int .i64 (g.2.2.2.2.2.2.2.2.2.2.2.2.2.2.2.2.2.2.1), .int .i64 (g.2.2.2.2.2.2.2.2.2.2.2.2.2.2.2.2.2.2.2.1), .int .i64 (g.2.2.2.2.2.2.2.2.2.2.2.2.2.2.2.2.2.2.2.2.1), .int .i64 (g.2.2.2.2.2.2.2.2.2.2.2.2.2.2.2.2.2.2.2.2.2.1), .int .i64 (g.2.2.2.2.2.2.2.2.2.2.2.2.2.2.2.2.2.2.2.2.2.2.1), .int .i64 (g.2.2.2.2.2.2.2.2.2.2.2.2.2.2.2.2.2.2.2.2.2.2.2.1), .int .i64 (g.2.2.2.2.2.2.2.2.2.2.2.2.2.2.2.2.2.2.2.2.2.2.2.2.1), .int .i64 (g.2.2.2.2.2.2.2.2.2.2.2.2.2.2.2.2.2.2.2.2.2.2.2.2.2.1), .int .i64 (g.2.2.2.2.2.2.2.2.2.2.2.2.2.2.2.2.2.2.2.2.2.2.2.2.2.2.1), .int .i64 (g.2.2.2.2.2.2.2.2.2.2.2.2.2.2.2.2.2.2.2.2.2.2.2.2.2.2.2.1), .string (g.2.2.2.2.2.2.2.2.2.2.2.2.2.2.2.2.2.2.2.2.2.2.2.2.2.2.2.2.1), .int .i64 (g.2.2.2.2.2.2.2.2.2.2.2.2.2.2.2.2.2.2.2.2.2.2.2.2.2.2.2.2.2)]) (post := []) (ts := LiA33) (x := r3) rfl rfl ?_
  refine (c_codes (h.keep H.ext) hs).mono ?_
  rintro rc ec w36 ⟨rfl, hrc, e36, hco⟩
  have H36 := H.keep e36
  have hlt := H.all_lt (j := wa.heap.size) (by simp)
  refine (c_mustS rc _ _).mono (fun r4 w38 h38 => ?_) fun v w38 h38 => ?_
  case refine_2 =>
    obtain ⟨rfl, hk2, rfl⟩ := h38
    exact ⟨_, rfl, hk2, ask _ (by unfold askE; rw [if_neg (by simp [hg, hm]), if_neg (by simp [hk]), if_pos hk2]) hk2, H36.ext⟩
  obtain ⟨rfl, hk2, rfl⟩ := h38
  have hcl := VRow.count icell_len (by decide) hrc
  refine (c_need _ _ _).mono (fun w39 h39 => ?_) fun v w39 h39 => ?_
  case refine_2 =>
    obtain ⟨rfl, hk3, rfl⟩ := h39
    rw [decide_eq_false_iff_not, hcl] at hk3
    exact ⟨6, rfl, by decide, ask 6 (by unfold askE; rw [if_neg (by simp [hg, hm]), if_neg (by simp [hk]), if_neg (by simp [hk2]), if_pos (by omega)]) (by decide), H36.ext⟩
  obtain ⟨hk3, rfl⟩ := h39
  rw [decide_eq_true_eq, hcl] at hk3
  have hask : askE g r f s = 0 := by unfold askE; rw [if_neg (by simp [hg, hm]), if_neg (by simp [hk]), if_neg (by simp [hk2]), if_neg (by omega)]
  have hcin := codes_in f.wide s
  generalize hcsE : (codesF f.wide s).1 = cs at *
  have HS := H36.size
  have h36 := e36.size
  refine ⟨fun n st w1 => ∃ (i : Nat) (pre : List GlT) (mi : Mx), st.2 = (i : Int) ∧ i ≤ cs.length ∧ n = cs.length - i ∧ pre.length = i ∧ showP g f cs r = ((showP g f (cs.drop i) mi).map fun y => (pre ++ y.1, y.2)) ∧
      Row w1 st.1 45 9 (pre.flatMap glc) ∧ (∀ j, st.1.own j → w39.heap.size ≤ j) ∧ Ext (· = wa.heap.size) w39 w1 ∧
      Hn w w1 [(w.heap.size, hac g r3, 61), (wa.heap.size, mrow mi, 23), (w5.heap.size, mrow noM, 23)], cs.length,
    ⟨0, [], r, rfl, Nat.zero_le _, rfl, rfl, by rw [List.drop_zero]; cases showP g f cs r <;> rfl, Row.nil _ _ _, fun j hj => (no_own j hj).elim, Ext.refl _ _, H36⟩, ?_⟩
  rintro n ⟨so, i'⟩ w41 ⟨i, pre, mi, hi', hi, rfl, hpl, hsp, hR, ho, e41, H⟩
  simp only at hi' hR ho
  subst hi'
  unfold S15L1
  dsimp only
  rw [hcl]
  refine Br.dec (fun q => ?_) fun q => ?_
  · have hil : i < cs.length := by omega
    have hV := hrc.keepF e41 (fun j hj hne => by have := hco j hj; omega)
    obtain ⟨a, ha, hcell⟩ := VRow.elem icell_len hV (List.getElem?_eq_getElem hil) (by decide)
    rw [ha]
    refine ⟨by omega, by omega, Nn.of (Ld.mk (x := cs[i]) (by have := hcell 0 _ rfl; simpa using this) ?_)⟩
    refine H.ldT (i := 0) (pre := []) (post := []) (ts := LiA60) (x := hand g r3) rfl rfl ?_
    refine H.ld 1 rfl (x := mi.1) rfl (H.ld 1 rfl (x := mi.2.1) rfl (H.ld 1 rfl (x := mi.2.2.1) rfl (H.ld 1 rfl (x := mi.2.2.2.1) rfl (H.ld 1 rfl (x := mi.2.2.2.2.1) rfl (H.ld 1 rfl (x := mi.2.2.2.2.2) rfl ?_)))))
    have hci := hcin _ (List.getElem_mem hil)
    have hdr : cs.drop i = cs[i] :: cs.drop (i + 1) := List.drop_eq_getElem_cons hil
    refine (c_sign (g := g) (hT.keep H.ext) (h.keep H.ext) hmay hg (code := cs[i]) (by unfold I64; omega) mi).mono (fun gl nx w54 h54 => ?_) fun v w54 h54 => ?_
    case refine_2 =>
      refine ⟨2, h54.1, by decide, ?_, H.ext.tr h54.2.2⟩
      have : showP g f cs r = none := by
        rw [hsp, hdr]
        unfold showP
        rw [h54.2.1]
        rfl
      unfold stringF
      rw [if_neg (by rw [hask]; simp), hcsE, this]
    obtain ⟨hsg, e54⟩ := h54
    have HS41 := H.size
    have h41s := e41.size
    have HM := H
    have H := (Hn.start w41).keep e54
    refine H.nw fun w55 H => H.nw fun w56 H => ?_
    refine H.stT (i := 0) (ts := LiA44) (pre := []) (post := []) (zs := [.int .i64 0, .string ⟨#[]⟩, .int .i64 0, .int .i64 0, .int .i64 0, .int .i64 0, .int .i64 0, .string ⟨#[]⟩, .int .i64 0]) rfl rfl rfl fun w57 H => ?_
    simp only [List.nil_append, List.cons_append, List.set_cons_zero, List.set_cons_succ, Nat.zero_add] at H
    iterate 6 (refine H.st 1 rfl (by simp) fun _ H => ?_; simp only [List.nil_append, List.cons_append, List.set_cons_zero, List.set_cons_succ, Nat.zero_add] at H)
    refine H.ldT (i := 0) (ts := LiA44) (pre := []) (post := []) (x := gl) rfl rfl ?_
    refine Nw.of ?_
    rename_i wq
    have e1 := (Ext.refl (fun _ => False) wq).alloc (.cells (glc gl).toArray 45)
    have hsl : so.len = pre.length := VRow.count glc_len (by decide) (Row.view hR)
    obtain ⟨s', w', hrun, hrow, hlen', hext, hown⟩ := elGl.app1 (ty := 37) (ys := glc gl) ((hR.keep H.ext fun _ _ e => e).keep e1 fun _ _ e => e) (Blk.new wq (glc gl).toArray 45) rfl (glc_one _) (by omega) (by omega)
    have hol : ∀ j, so.own j → j < w41.heap.size := fun j hj => hR.own_lt hj
    have E41 : Ext (fun _ => False) w41 _ := H.ext.tr e1
    have EM : Ext (· = wa.heap.size) w39 w' := (e41.trans E41 (fun _ h => h) fun _ _ h => h.elim).trans hext (fun _ h => h) fun j hj hw => by
      have := ho j hw
      omega
    have hge := H.ge 1 rfl
    have hB : Blk w' w55.heap.size (mrow nx).toArray 23 := hext.blk ((H.keep e1).get 1 rfl) fun hj => by
      have := hol _ hj
      omega
    refine ⟨s', w', hrun, ?_⟩
    refine Ld.of hB (x := nx.1) rfl (Ld.of hB (x := nx.2.1) rfl (Ld.of hB (x := nx.2.2.1) rfl (Ld.of hB (x := nx.2.2.2.1) rfl (Ld.of hB (x := nx.2.2.2.2.1) rfl (Ld.of hB (x := nx.2.2.2.2.2) rfl ?_)))))
    have H : Hn w w' [(w.heap.size, hac g r3, 61), (wa.heap.size, mrow mi, 23), (w5.heap.size, mrow noM, 23)] := (HM.keep E41).other hext fun j hj => by
      have h1 := ho j hj
      have h2 := H36.all_lt (j := w.heap.size) (by simp)
      have h3 := H36.all_lt (j := wa.heap.size) (by simp)
      have h4 := H36.all_lt (j := w5.heap.size) (by simp)
      refine ⟨by omega, ?_⟩
      simp only [List.map_cons, List.map_nil, List.mem_cons, List.not_mem_nil, or_false]
      omega
    refine H.st' 1 rfl (by simp) fun wq1 H he1 => ?_
    simp only [List.nil_append, List.cons_append, List.set_cons_zero, List.set_cons_succ, Nat.zero_add] at H
    refine H.st' 1 rfl (by simp) fun wq2 H he2 => ?_
    simp only [List.nil_append, List.cons_append, List.set_cons_zero, List.set_cons_succ, Nat.zero_add] at H
    refine H.st' 1 rfl (by simp) fun wq3 H he3 => ?_
    simp only [List.nil_append, List.cons_append, List.set_cons_zero, List.set_cons_succ, Nat.zero_add] at H
    refine H.st' 1 rfl (by simp) fun wq4 H he4 => ?_
    simp only [List.nil_append, List.cons_append, List.set_cons_zero, List.set_cons_succ, Nat.zero_add] at H
    refine H.st' 1 rfl (by simp) fun wq5 H he5 => ?_
    simp only [List.nil_append, List.cons_append, List.set_cons_zero, List.set_cons_succ, Nat.zero_add] at H
    refine H.st' 1 rfl (by simp) fun wq6 H he6 => ?_
    simp only [List.nil_append, List.cons_append, List.set_cons_zero, List.set_cons_succ, Nat.zero_add] at H
    have E6 : Ext (· = wa.heap.size) w' wq6 := ((((he1.tr he2).tr he3).tr he4).tr he5).tr he6
    refine ⟨cs.length - (i + 1), by omega, i + 1, pre ++ [gl], nx, by rw [i64_id (by omega)]; rfl, by omega, rfl, by rw [List.length_append, hpl]; rfl, ?_, ?_, ?_, EM.tr E6, H⟩
    · rw [hsp, hdr]
      show Option.map _ ((signP g f mi cs[i]).bind _) = _
      rw [hsg]
      show Option.map _ ((showP g f (cs.drop (i + 1)) nx).bind _) = _
      cases showP g f (cs.drop (i + 1)) nx with
      | none => rfl
      | some y => simp
    · rw [List.flatMap_append]
      refine Row.keep (by simpa using hrow) E6 fun j hj e => ?_
      rcases hown j hj with h1 | h1
      · have := ho j h1
        omega
      · have := E41.size
        have := hext.size
        omega
    · intro j hj
      rcases hown j hj with h1 | h1
      · exact ho j h1
      · have := E41.size
        have := e41.size
        omega
  · have : i = cs.length := by omega
    subst this
    rw [List.drop_length] at hsp
    have H := H.drew
    iterate 6 refine H.ld 1 rfl rfl ?_
    refine H.st' 2 rfl (by simp) fun wq1 H he1 => ?_
    simp only [List.nil_append, List.cons_append, List.set_cons_zero, List.set_cons_succ, Nat.zero_add] at H
    refine H.st' 2 rfl (by simp) fun wq2 H he2 => ?_
    simp only [List.nil_append, List.cons_append, List.set_cons_zero, List.set_cons_succ, Nat.zero_add] at H
    refine H.st' 2 rfl (by simp) fun wq3 H he3 => ?_
    simp only [List.nil_append, List.cons_append, List.set_cons_zero, List.set_cons_succ, Nat.zero_add] at H
    refine H.st' 2 rfl (by simp) fun wq4 H he4 => ?_
    simp only [List.nil_append, List.cons_append, List.set_cons_zero, List.set_cons_succ, Nat.zero_add] at H
    refine H.st' 2 rfl (by simp) fun wq5 H he5 => ?_
    simp only [List.nil_append, List.cons_append, List.set_cons_zero, List.set_cons_succ, Nat.zero_add] at H
    refine H.st' 2 rfl (by simp) fun wq6 H he6 => ?_
    simp only [List.nil_append, List.cons_append, List.set_cons_zero, List.set_cons_succ, Nat.zero_add] at H
    have E6 : Ext (· = w5.heap.size) w41.drew wq6 := ((((he1.tr he2).tr he3).tr he4).tr he5).tr he6
    iterate 6 refine H.ld 2 rfl rfl ?_
    have hl5 := H36.all_lt (j := w5.heap.size) (by simp)
    exact ⟨hask, H.ext, pre, by rw [hsp]; simp [showP], (Row.view (hR.keep (Ext.refl (fun _ => False) w41).drew fun _ _ e => e)).keepF E6 (fun j hj e => by have := ho j hj; omega), fun j hj => by have := ho j hj; omega⟩
end
end Sw
end Go.Proofs.YtcblpehnkogfdaaDoor
