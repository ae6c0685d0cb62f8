/- Shown strings: a text. Conditions: sizes, the laid tables. -/
import Derived.Test.YtcblpehnkogfdaaGreatDoorSwA
namespace Go.Proofs.YtcblpehnkogfdaaGreatDoor
namespace Sw
open Sh Mat Fix Fo
set_option linter.unusedVariables false
set_option linter.unusedSimpArgs false
set_option maxRecDepth 4000
set_option maxHeartbeats 4000000
attribute [local irreducible] Ld St Nw Nn Lt LdS
def glc (x : GlT) : List Value := Sig.cells LiA69 x
theorem glc_len (x : GlT) : (glc x).length = 9 := rfl
theorem glc_one (x : GlT) : ∀ v ∈ glc x, v.oneCell' = true := fun v hv => by
  simp only [glc, Sig.cells, List.mem_cons, List.not_mem_nil, or_false] at hv
  rcases hv with rfl | rfl | rfl | rfl | rfl | rfl | rfl | rfl | rfl <;> rfl
theorem elGl : El Tryz.prog 49 70 9 88 (.agg (glc (0, ⟨#[]⟩, 0, 0, 0, 0, 0, ⟨#[]⟩, 0)).toArray) := ⟨by kernel_rfl, by kernel_rfl, by kernel_rfl, by kernel_rfl, rfl⟩
theorem pairs_in : ∀ (l : By), ∀ c ∈ pairs l, 0 ≤ c ∧ c ≤ 65535
  | [], c, h => by cases h
  | [a], c, h => by cases h
  | a :: b :: r, c, h => by
    rcases List.mem_cons.1 h with rfl | h
    · have := a.toNat_lt
      have := b.toNat_lt
      omega
    · exact pairs_in r c h
theorem codes_in (wide : Bool) (s : ByteArray) : ∀ c ∈ (codesF wide s).1, 0 ≤ c ∧ c ≤ 65535 := fun c h => by
  unfold codesF at h
  split at h
  · obtain ⟨b, _, rfl⟩ := List.mem_map.1 h
    have := b.toNat_lt
    omega
  · split at h
    · cases h
    · exact pairs_in _ c h
theorem pairs_len : ∀ (l : By), 2 * (pairs l).length ≤ l.length
  | [] => by simp [pairs]
  | [a] => by simp [pairs]
  | a :: b :: r => by
    have := pairs_len r
    simp only [pairs, List.length_cons]
    omega
/-- The cells of a hand. -/
def hac (g : GT) (x : FT) : List Value := [.int .i64 (g.1), .int .i64 (g.2.1), .int .i64 (g.2.2.1), .int .i64 (g.2.2.2.1), .int .i64 (g.2.2.2.2.1), .int .i64 (g.2.2.2.2.2.1), .int .i64 (g.2.2.2.2.2.2.1), .int .i64 (g.2.2.2.2.2.2.2.1), .int .i64 (g.2.2.2.2.2.2.2.2.1), .int .i64 (g.2.2.2.2.2.2.2.2.2.1), Slc.v (g.2.2.2.2.2.2.2.2.2.2.1), .int .i64 (g.2.2.2.2.2.2.2.2.2.2.2.1), .int .i64 (g.2.2.2.2.2.2.2.2.2.2.2.2.1), .int .i64 (g.2.2.2.2.2.2.2.2.2.2.2.2.2.1), .int .i64 (g.2.2.2.2.2.2.2.2.2.2.2.2.2.2.1), .int .i64 (g.2.2.2.2.2.2.2.2.2.2.2.2.2.2.2.1), .int .i64 (g.2.2.2.2.2.2.2.2.2.2.2.2.2.2.2.2.1), .int .i64 (g.2.2.2.2.2.2.2.2.2.2.2.2.2.2.2.2.2.1), .int .i64 (g.2.2.2.2.2.2.2.2.2.2.2.2.2.2.2.2.2.2.1), .int .i64 (g.2.2.2.2.2.2.2.2.2.2.2.2.2.2.2.2.2.2.2.1), .int .i64 (g.2.2.2.2.2.2.2.2.2.2.2.2.2.2.2.2.2.2.2.2.1), .int .i64 (g.2.2.2.2.2.2.2.2.2.2.2.2.2.2.2.2.2.2.2.2.2.1), .int .i64 (g.2.2.2.2.2.2.2.2.2.2.2.2.2.2.2.2.2.2.2.2.2.2.1), .int .i64 (g.2.2.2.2.2.2.2.2.2.2.2.2.2.2.2.2.2.2.2.2.2.2.2.1), .int .i64 (g.2.2.2.2.2.2.2.2.2.2.2.2.2.2.2.2.2.2.2.2.2.2.2.2.1), .int .i64 (g.2.2.2.2.2.2.2.2.2.2.2.2.2.2.2.2.2.2.2.2.2.2.2.2.2.1), .int .i64 (g.2.2.2.2.2.2.2.2.2.2.2.2.2.2.2.2.2.2.2.2.2.2.2.2.2.2.1), .int .i64 (g.2.2.2.2.2.2.2.2.2.2.2.2.2.2.2.2.2.2.2.2.2.2.2.2.2.2.2.1), .string (g.2.2.2.2.2.2.2.2.2.2.2.2.2.2.2.2.2.2.2.2.2.2.2.2.2.2.2.2.1), .int .i64 (g.2.2.2.2.2.2.2.2.2.2.2.2.2.2.2.2.2.2.2.2.2.2.2.2.2.2.2.2.2), .string (x.1), .bool (x.2.1), .int .i64 (x.2.2.1), Slc.v (x.2.2.2.1), .int .i64 (x.2.2.2.2.1), Slc.v (x.2.2.2.2.2.1), Slc.v (x.2.2.2.2.2.2)]
section
variable {w : World} {g : GT} {x : FT} {f : Font}
theorem c_text (hT : TB w) (h : FoV w x f) (m : Mx) {s : ByteArray} (hs : s.size ≤ 1048576) :
    C55 (hand g x) m s w (fun r m2 w1 => askE g m f s = 0 ∧ Ext (fun _ => False) w w1 ∧ ∃ L, showP g f (codesF f.wide s).1 m = some (L, m2) ∧ VRow w1 r 9 (L.flatMap glc) ∧ ∀ j, r.own j → w.heap.size ≤ j)
      fun v w1 => ∃ e, v = gup e ∧ e ≠ 0 ∧ stringF g m f s = ([], noM, e) ∧ Ext (fun _ => False) w w1 := by
  refine T55 _ _ _ _ _ _ ?_
  unfold S55
  refine Nw.of ?_
  have H := ha_blk w g x
  generalize w.alloc (.cells (Sig.cells LiA83 (hand g x)).toArray 84) = wa at *
  refine H.nw fun w5 H => H.nw fun w6 H => ?_
  have ask : ∀ e, askE g m f s = e → e ≠ 0 → stringF g m f s = ([], noM, e) := fun e he h0 => by
    unfold stringF
    rw [he, if_pos h0]
  refine H.ldT (i := 0) (pre := []) (post := [.string (x.1), .bool (x.2.1), .int .i64 (x.2.2.1), Slc.v (x.2.2.2.1), .int .i64 (x.2.2.2.2.1), Slc.v (x.2.2.2.2.2.1), Slc.v (x.2.2.2.2.2.2)]) (ts := LiA30) (x := g) rfl rfl ?_
  refine (c_use g _).mono (fun w8 h8 => ?_) fun v w8 h8 => ⟨2, h8.1, by decide, ask 2 (by unfold askE; rw [if_pos (.inl h8.2.1)]) (by decide), H.ext.tr h8.2.2⟩
  obtain ⟨hg, e8⟩ := h8
  have H := (H.keep e8).drew
  have cl : ∀ {j : Nat} {v : Value}, (mrow m)[j]? = some v → w8.drew.cell? ⟨wa.heap.size, j, none⟩ = some v := fun {j v} hj => by
    rw [(H.get 1 rfl).cell, List.getElem?_toArray]
    exact hj
  refine ⟨Ext (fun _ => False) w8.drew, Ext.refl _ _, ?_⟩
  refine ldS_ext (x := m.1) (cl rfl) (ldS_ext (x := m.2.1) (cl rfl) (ldS_ext (x := m.2.2.1) (cl rfl) (ldS_ext (x := m.2.2.2.1) (cl rfl) (ldS_ext (x := m.2.2.2.2.1) (cl rfl) (ldS_ext (x := m.2.2.2.2.2) (cl rfl) ?_)))))
  refine ldS_ext (x := m.1) (cl rfl) (ldS_ext (x := m.2.1) (cl rfl) (ldS_ext (x := m.2.2.1) (cl rfl) (ldS_ext (x := m.2.2.2.1) (cl rfl) (ldS_ext (x := m.2.2.2.2.1) (cl rfl) (ldS_ext (x := m.2.2.2.2.2) (cl rfl) ?_)))))
  refine (Mat.c_check m _).mono ?_
  rintro r w23 ⟨rfl, e23⟩
  refine ⟨e23, (c_mustM m _ _).mono (fun r w25 h25 => ?_) fun v w25 h25 => ?_⟩
  case refine_2 =>
    obtain ⟨rfl, h0, e25⟩ := h25
    have hm : Mat.okM m = false := by
      cases hm : Mat.okM m with
      | false => rfl
      | true => rw [hm] at h0; exact absurd rfl h0
    exact ⟨2, by rw [hm]; rfl, by decide, ask 2 (by unfold askE; rw [if_pos (.inr hm)]) (by decide), (H.ext.tr e23).tr e25⟩
  obtain ⟨rfl, h0, e25⟩ := h25
  have hm : Mat.okM r = true := by
    cases hm : Mat.okM r with
    | true => rfl
    | false => rw [hm] at h0; cases h0
  have H := ((H.keep e23).keep e25).drew
  have E0 := H.ext
  refine ⟨Ext (fun _ => False) w25.drew, Ext.refl _ _, ?_⟩
  refine LdST.blk (ts := LiA34) (pre := [.int .i64 (g.1), .int .i64 (g.2.1), .int .i64 (g.2.2.1), .int .i64 (g.2.2.2.1), .int .i64 (g.2.2.2.2.1), .int .i64 (g.2.2.2.2.2.1), .int .i64 (g.2.2.2.2.2.2.1), .int .i64 (g.2.2.2.2.2.2.2.1), .int .i64 (g.2.2.2.2.2.2.2.2.1), .int .i64 (g.2.2.2.2.2.2.2.2.2.1), Slc.v (g.2.2.2.2.2.2.2.2.2.2.1), .int .i64 (g.2.2.2.2.2.2.2.2.2.2.2.1), .int .i64 (g.2.2.2.2.2.2.2.2.2.2.2.2.1), .int .i64 (g.2.2.2.2.2.2.2.2.2.2.2.2.2.1), .int .i64 (g.2.2.2.2.2.2.2.2.2.2.2.2.2.2.1), .int .i64 (g.2.2.2.2.2.2.2.2.2.2.2.2.2.2.2.1), .int .i64 (g.2.2.2.2.2.2.2.2.2.2.2.2.2.2.2.2.1), .int .i64 (g.2.2.2.2.2.2.2.2.2.2.2.2.2.2.2.2.2.1), .int .i64 (g.2.2.2.2.2.2.2.2.2.2.2.2.2.2.2.2.2.2.1), .int .i64 (g.2.2.2.2.2.2.2.2.2.2.2.2.2.2.2.2.2.2.2.1), .int .i64 (g.2.2.2.2.2.2.2.2.2.2.2.2.2.2.2.2.2.2.2.2.1), .int .i64 (g.2.2.2.2.2.2.2.2.2.2.2.2.2.2.2.2.2.2.2.2.2.1), .int .i64 (g.2.2.2.2.2.2.2.2.2.2.2.2.2.2.2.2.2.2.2.2.2.2.1), .int .i64 (g.2.2.2.2.2.2.2.2.2.2.2.2.2.2.2.2.2.2.2.2.2.2.2.1), .int .i64 (g.2.2.2.2.2.2.2.2.2.2.2.2.2.2.2.2.2.2.2.2.2.2.2.2.1), .int .i64 (g.2.2.2.2.2.2.2.2.2.2.2.2.2.2.2.2.2.2.2.2.2.2.2.2.2.1), .int .i64 (g.2.2.2.2.2.2.2.2.2.2.2.2.2.2.2.2.2.2.2.2.2.2.2.2.2.2.1), .int .i64 (g.2.2.2.2.2.2.2.2.2.2.2.2.2.2.2.2.2.2.2.2.2.2.2.2.2.2.2.1), .string (g.2.2.2.2.2.2.2.2.2.2.2.2.2.2.2.2.2.2.2.2.2.2.2.2.2.2.2.2.1), .int .i64 (g.2.2.2.2.2.2.2.2.2.2.2.2.2.2.2.2.2.2.2.2.2.2.2.2.2.2.2.2.2)]) (post := []) (t := 84) (x := x) (fun w' hw => hw.blk (H.get 0 rfl) id) rfl ?_
  refine LdST.blk (ts := LiA34) (pre := [.int .i64 (g.1), .int .i64 (g.2.1), .int .i64 (g.2.2.1), .int .i64 (g.2.2.2.1), .int .i64 (g.2.2.2.2.1), .int .i64 (g.2.2.2.2.2.1), .int .i64 (g.2.2.2.2.2.2.1), .int .i64 (g.2.2.2.2.2.2.2.1), .int .i64 (g.2.2.2.2.2.2.2.2.1), .int .i64 (g.2.2.2.2.2.2.2.2.2.1), Slc.v (g.2.2.2.2.2.2.2.2.2.2.1), .int .i64 (g.2.2.2.2.2.2.2.2.2.2.2.1), .int .i64 (g.2.2.2.2.2.2.2.2.2.2.2.2.1), .int .i64 (g.2.2.2.2.2.2.2.2.2.2.2.2.2.1), .int .i64 (g.2.2.2.2.2.2.2.2.2.2.2.2.2.2.1), .int .i64 (g.2.2.2.2.2.2.2.2.2.2.2.2.2.2.2.1), .int .i64 (g.2.2.2.2.2.2.2.2.2.2.2.2.2.2.2.2.1), .int .i64 (g.2.2.2.2.2.2.2.2.2.2.2.2.2.2.2.2.2.1), .int .i64 (g.2.2.2.2.2.2.2.2.2.2.2.2.2.2.2.2.2.2.1), .int .i64 (g.2.2.2.2.2.2.2.2.2.2.2.2.2.2.2.2.2.2.2.1), .int .i64 (g.2.2.2.2.2.2.2.2.2.2.2.2.2.2.2.2.2.2.2.2.1), .int .i64 (g.2.2.2.2.2.2.2.2.2.2.2.2.2.2.2.2.2.2.2.2.2.1), .int .i64 (g.2.2.2.2.2.2.2.2.2.2.2.2.2.2.2.2.2.2.2.2.2.2.1), .int .i64 (g.2.2.2.2.2.2.2.2.2.2.2.2.2.2.2.2.2.2.2.2.2.2.2.1), .int .i64 (g.2.2.2.2.2.2.2.2.2.2.2.2.2.2.2.2.2.2.2.2.2.2.2.2.1), .int .i64 (g.2.2.2.2.2.2.2.2.2.2.2.2.2.2.2.2.2.2.2.2.2.2.2.2.2.1), .int .i64 (g.2.2.2.2.2.2.2.2.2.2.2.2.2.2.2.2.2.2.2.2.2.2.2.2.2.2.1), .int .i64 (g.2.2.2.2.2.2.2.2.2.2.2.2.2.2.2.2.2.2.2.2.2.2.2.2.2.2.2.1), .string (g.2.2.2.2.2.2.2.2.2.2.2.2.2.2.2.2.2.2.2.2.2.2.2.2.2.2.2.2.1), .int .i64 (g.2.2.2.2.2.2.2.2.2.2.2.2.2.2.2.2.2.2.2.2.2.2.2.2.2.2.2.2.2)]) (post := []) (t := 84) (x := x) (fun w' hw => hw.blk (H.get 0 rfl) id) rfl ?_
  refine (c_chk (hT.keep E0) (h.keep E0)).mono ?_
  rintro r2 w30 ⟨rfl, e30⟩
  refine ⟨e30, (c_mustF x _ _).mono (fun r3 w32 h32 => ?_) fun v w32 h32 => ?_⟩
  case refine_2 =>
    obtain ⟨rfl, hk, e32⟩ := h32
    exact ⟨_, rfl, hk, ask _ (by unfold askE; rw [if_neg (by simp [hg, hm]), if_pos hk]) hk, (E0.tr e30).tr e32⟩
  obtain ⟨rfl, hk, e32⟩ := h32
  have hmay := chk_may hk
  have H := (H.keep e30).keep e32
  refine H.ldT (i := 0) (pre := [.int .i64 (g.1), .int .i64 (g.2.1), .int .i64 (g.2.2.1), .int .i64 (g.2.2.2.1), .int .i64 (g.2.2.2.2.1), .int .i64 (g.2.2.2.2.2.1), .int .i64 (g.2.2.2.2.2.2.1), .int .i64 (g.2.2.2.2.2.2.2.1), .int .i64 (g.2.2.2.2.2.2.2.2.1), .int .i64 (g.2.2.2.2.2.2.2.2.2.1), Slc.v (g.2.2.2.2.2.2.2.2.2.2.1), .int .i64 (g.2.2.2.2.2.2.2.2.2.2.2.1), .int .i64 (g.2.2.2.2.2.2.2.2.2.2.2.2.1), .int .i64 (g.2.2.2.2.2.2.2.2.2.2.2.2.2.1), .int .i64 (g.2.2.2.2.2.2.2.2.2.2.2.2.2.2.1), .int .i64 (g.2.2.2.2.2.2.2.2.2.2.2.2.2.2.2.1), .int .i64 (g.2.2.2.2.2.2.2.2.2.2.2.2.2.2.2.2.1), .int .i64 (g.2.2.2.2.2.2.2.2.2.2.2.2.2.2.2.2.2.1), .int .i64 (g.2.2.2.2.2.2.2.2.2.2.2.2.2.2.2.2.2.2.1), .int .i64 (g.2.2.2.2.2.2.2.2.2.2.2.2.2.2.2.2.2.2.2.1), .int .i64 (g.2.2.2.2.2.2.2.2.2.2.2.2.2.2.2.2.2.2.2.2.1), .int .i64 (g.2.2.2.2.2.2.2.2.2.2.2.2.2.2.2.2.2.2.2.2.2.1), .int .i64 (g.2.2.2.2.2.2.2.2.2.2.2.2.2.2.2.2.2.2.2.2.2.2.1), .int .i64 (g.2.2.2.2.2.2.2.2.2.2.2.2.2.2.2.2.2.2.2.2.2.2.2.1), .int .i64 (g.2.2.2.2.2.2.2.2.2.2.2.2.2.2.2.2.2.2.2.2.2.2.2.2.1), .int .i64 (g.2.2.2.2.2.2.2.2.2.2.2.2.2.2.2.2.2.2.2.2.2.2.2.2.2.1), .int .i64 (g.2.2.2.2.2.2.2.2.2.2.2.2.2.2.2.2.2.2.2.2.2.2.2.2.2.2.1), .int .i64 (g.2.2.2.2.2.2.2.2.2.2.2.2.2.2.2.2.2.2.2.2.2.2.2.2.2.2.2.1), .string (g.2.2.2.2.2.2.2.2.2.2.2.2.2.2.2.2.2.2.2.2.2.2.2.2.2.2.2.2.1), .int .i64 (g.2.2.2.2.2.2.2.2.2.2.2.2.2.2.2.2.2.2.2.2.2.2.2.2.2.2.2.2.2)]) (post := []) (ts := LiA34) (x := r3) rfl rfl ?_
  refine (c_codes (h.keep H.ext) hs).mono ?_
  rintro rc ec w36 ⟨rfl, hrc, e36, hco⟩
  have H36 := H.keep e36
  have hlt := H.all_lt (j := wa.heap.size) (by simp)
  refine (c_mustS rc _ _).mono (fun r4 w38 h38 => ?_) fun v w38 h38 => ?_
  case refine_2 =>
    obtain ⟨rfl, hk2, rfl⟩ := h38
    exact ⟨_, rfl, hk2, ask _ (by unfold askE; rw [if_neg (by simp [hg, hm]), if_neg (by simp [hk]), if_pos hk2]) hk2, H36.ext⟩
  obtain ⟨rfl, hk2, rfl⟩ := h38
  have hcl := VRow.count icell_len (by decide) hrc
  refine (c_need _ _ _).mono (fun w39 h39 => ?_) fun v w39 h39 => ?_
  case refine_2 =>
    obtain ⟨rfl, hk3, rfl⟩ := h39
    rw [decide_eq_false_iff_not, hcl] at hk3
    exact ⟨6, rfl, by decide, ask 6 (by unfold askE; rw [if_neg (by simp [hg, hm]), if_neg (by simp [hk]), if_neg (by simp [hk2]), if_pos (by omega)]) (by decide), H36.ext⟩
  obtain ⟨hk3, rfl⟩ := h39
  rw [decide_eq_true_eq, hcl] at hk3
  have hask : askE g r f s = 0 := by unfold askE; rw [if_neg (by simp [hg, hm]), if_neg (by simp [hk]), if_neg (by simp [hk2]), if_neg (by omega)]
  have hcin := codes_in f.wide s
  generalize hcsE : (codesF f.wide s).1 = cs at *
  have HS := H36.size
  have h36 := e36.size
  refine ⟨fun n st w1 => ∃ (i : Nat) (pre : List GlT) (mi : Mx), st.2 = (i : Int) ∧ i ≤ cs.length ∧ n = cs.length - i ∧ pre.length = i ∧ showP g f cs r = ((showP g f (cs.drop i) mi).map fun y => (pre ++ y.1, y.2)) ∧
      Row w1 st.1 70 9 (pre.flatMap glc) ∧ (∀ j, st.1.own j → w39.heap.size ≤ j) ∧ Ext (· = wa.heap.size) w39 w1 ∧
      Hn w w1 [(w.heap.size, hac g r3, 84), (wa.heap.size, mrow mi, 24), (w5.heap.size, mrow noM, 24)], cs.length,
    ⟨0, [], r, rfl, Nat.zero_le _, rfl, rfl, by rw [List.drop_zero]; cases showP g f cs r <;> rfl, Row.nil _ _ _, fun j hj => (no_own j hj).elim, Ext.refl _ _, H36⟩, ?_⟩
  rintro n ⟨so, i'⟩ w41 ⟨i, pre, mi, hi', hi, rfl, hpl, hsp, hR, ho, e41, H⟩
  simp only at hi' hR ho
  subst hi'
  unfold S55L1
  dsimp only
  rw [hcl]
  refine Br.dec (fun q => ?_) fun q => ?_
  · have hil : i < cs.length := by omega
    have hV := hrc.keepF e41 (fun j hj hne => by have := hco j hj; omega)
    obtain ⟨a, ha, hcell⟩ := VRow.elem icell_len hV (List.getElem?_eq_getElem hil) (by decide)
    rw [ha]
    refine ⟨by omega, by omega, Nn.of (Ld.mk (x := cs[i]) (by have := hcell 0 _ rfl; simpa using this) ?_)⟩
    refine H.ldT (i := 0) (pre := []) (post := []) (ts := LiA83) (x := hand g r3) rfl rfl ?_
    refine H.ld 1 rfl (x := mi.1) rfl (H.ld 1 rfl (x := mi.2.1) rfl (H.ld 1 rfl (x := mi.2.2.1) rfl (H.ld 1 rfl (x := mi.2.2.2.1) rfl (H.ld 1 rfl (x := mi.2.2.2.2.1) rfl (H.ld 1 rfl (x := mi.2.2.2.2.2) rfl ?_)))))
    have hci := hcin _ (List.getElem_mem hil)
    have hdr : cs.drop i = cs[i] :: cs.drop (i + 1) := List.drop_eq_getElem_cons hil
    refine (c_sign (g := g) (hT.keep H.ext) (h.keep H.ext) hmay hg (code := cs[i]) (by unfold I64; omega) mi).mono (fun gl nx w54 h54 => ?_) fun v w54 h54 => ?_
    case refine_2 =>
      refine ⟨2, h54.1, by decide, ?_, H.ext.tr h54.2.2⟩
      have : showP g f cs r = none := by
        rw [hsp, hdr]
        unfold showP
        rw [h54.2.1]
        rfl
      unfold stringF
      rw [if_neg (by rw [hask]; simp), hcsE, this]
    obtain ⟨hsg, e54⟩ := h54
    have HS41 := H.size
    have h41s := e41.size
    have HM := H
    have H := (Hn.start w41).keep e54
    refine H.nw fun w55 H => H.nw fun w56 H => ?_
    refine H.stT (i := 0) (ts := LiA69) (pre := []) (post := []) (zs := [.int .i64 0, .string ⟨#[]⟩, .int .i64 0, .int .i64 0, .int .i64 0, .int .i64 0, .int .i64 0, .string ⟨#[]⟩, .int .i64 0]) rfl rfl rfl fun w57 H => ?_
    simp only [List.nil_append, List.cons_append, List.set_cons_zero, List.set_cons_succ, Nat.zero_add] at H
    iterate 6 (refine H.st 1 rfl (by simp) fun _ H => ?_; simp only [List.nil_append, List.cons_append, List.set_cons_zero, List.set_cons_succ, Nat.zero_add] at H)
    refine H.ldT (i := 0) (ts := LiA69) (pre := []) (post := []) (x := gl) rfl rfl ?_
    refine Nw.of ?_
    rename_i wq
    have e1 := (Ext.refl (fun _ => False) wq).alloc (.cells (glc gl).toArray 70)
    have hsl : so.len = pre.length := VRow.count glc_len (by decide) (Row.view hR)
    obtain ⟨s', w', hrun, hrow, hlen', hext, hown⟩ := elGl.app1 (ty := 49) (ys := glc gl) ((hR.keep H.ext fun _ _ e => e).keep e1 fun _ _ e => e) (Blk.new wq (glc gl).toArray 70) rfl (glc_one _) (by omega) (by omega)
    have hol : ∀ j, so.own j → j < w41.heap.size := fun j hj => hR.own_lt hj
    have E41 : Ext (fun _ => False) w41 _ := H.ext.tr e1
    have EM : Ext (· = wa.heap.size) w39 w' := (e41.trans E41 (fun _ h => h) fun _ _ h => h.elim).trans hext (fun _ h => h) fun j hj hw => by
      have := ho j hw
      omega
    have hge := H.ge 1 rfl
    have hB : Blk w' w55.heap.size (mrow nx).toArray 24 := hext.blk ((H.keep e1).get 1 rfl) fun hj => by
      have := hol _ hj
      omega
    refine ⟨s', w', hrun, ?_⟩
    refine Ld.of hB (x := nx.1) rfl (Ld.of hB (x := nx.2.1) rfl (Ld.of hB (x := nx.2.2.1) rfl (Ld.of hB (x := nx.2.2.2.1) rfl (Ld.of hB (x := nx.2.2.2.2.1) rfl (Ld.of hB (x := nx.2.2.2.2.2) rfl ?_)))))
    have H : Hn w w' [(w.heap.size, hac g r3, 84), (wa.heap.size, mrow mi, 24), (w5.heap.size, mrow noM, 24)] := (HM.keep E41).other hext fun j hj => by
      have h1 := ho j hj
      have h2 := H36.all_lt (j := w.heap.size) (by simp)
      have h3 := H36.all_lt (j := wa.heap.size) (by simp)
      have h4 := H36.all_lt (j := w5.heap.size) (by simp)
      refine ⟨by omega, ?_⟩
      simp only [List.map_cons, List.map_nil, List.mem_cons, List.not_mem_nil, or_false]
      omega
    refine H.st' 1 rfl (by simp) fun wq1 H he1 => ?_
    simp only [List.nil_append, List.cons_append, List.set_cons_zero, List.set_cons_succ, Nat.zero_add] at H
    refine H.st' 1 rfl (by simp) fun wq2 H he2 => ?_
    simp only [List.nil_append, List.cons_append, List.set_cons_zero, List.set_cons_succ, Nat.zero_add] at H
    refine H.st' 1 rfl (by simp) fun wq3 H he3 => ?_
    simp only [List.nil_append, List.cons_append, List.set_cons_zero, List.set_cons_succ, Nat.zero_add] at H
    refine H.st' 1 rfl (by simp) fun wq4 H he4 => ?_
    simp only [List.nil_append, List.cons_append, List.set_cons_zero, List.set_cons_succ, Nat.zero_add] at H
    refine H.st' 1 rfl (by simp) fun wq5 H he5 => ?_
    simp only [List.nil_append, List.cons_append, List.set_cons_zero, List.set_cons_succ, Nat.zero_add] at H
    refine H.st' 1 rfl (by simp) fun wq6 H he6 => ?_
    simp only [List.nil_append, List.cons_append, List.set_cons_zero, List.set_cons_succ, Nat.zero_add] at H
    have E6 : Ext (· = wa.heap.size) w' wq6 := ((((he1.tr he2).tr he3).tr he4).tr he5).tr he6
    refine ⟨cs.length - (i + 1), by omega, i + 1, pre ++ [gl], nx, by rw [i64_id (by omega)]; rfl, by omega, rfl, by rw [List.length_append, hpl]; rfl, ?_, ?_, ?_, EM.tr E6, H⟩
    · rw [hsp, hdr]
      show Option.map _ ((signP g f mi cs[i]).bind _) = _
      rw [hsg]
      show Option.map _ ((showP g f (cs.drop (i + 1)) nx).bind _) = _
      cases showP g f (cs.drop (i + 1)) nx with
      | none => rfl
      | some y => simp
    · rw [List.flatMap_append]
      refine Row.keep (by simpa using hrow) E6 fun j hj e => ?_
      rcases hown j hj with h1 | h1
      · have := ho j h1
        omega
      · have := E41.size
        have := hext.size
        omega
    · intro j hj
      rcases hown j hj with h1 | h1
      · exact ho j h1
      · have := E41.size
        have := e41.size
        omega
  · have : i = cs.length := by omega
    subst this
    rw [List.drop_length] at hsp
    have H := H.drew
    iterate 6 refine H.ld 1 rfl rfl ?_
    refine H.st' 2 rfl (by simp) fun wq1 H he1 => ?_
    simp only [List.nil_append, List.cons_append, List.set_cons_zero, List.set_cons_succ, Nat.zero_add] at H
    refine H.st' 2 rfl (by simp) fun wq2 H he2 => ?_
    simp only [List.nil_append, List.cons_append, List.set_cons_zero, List.set_cons_succ, Nat.zero_add] at H
    refine H.st' 2 rfl (by simp) fun wq3 H he3 => ?_
    simp only [List.nil_append, List.cons_append, List.set_cons_zero, List.set_cons_succ, Nat.zero_add] at H
    refine H.st' 2 rfl (by simp) fun wq4 H he4 => ?_
    simp only [List.nil_append, List.cons_append, List.set_cons_zero, List.set_cons_succ, Nat.zero_add] at H
    refine H.st' 2 rfl (by simp) fun wq5 H he5 => ?_
    simp only [List.nil_append, List.cons_append, List.set_cons_zero, List.set_cons_succ, Nat.zero_add] at H
    refine H.st' 2 rfl (by simp) fun wq6 H he6 => ?_
    simp only [List.nil_append, List.cons_append, List.set_cons_zero, List.set_cons_succ, Nat.zero_add] at H
    have E6 : Ext (· = w5.heap.size) w41.drew wq6 := ((((he1.tr he2).tr he3).tr he4).tr he5).tr he6
    iterate 6 refine H.ld 2 rfl rfl ?_
    have hl5 := H36.all_lt (j := w5.heap.size) (by simp)
    exact ⟨hask, H.ext, pre, by rw [hsp]; simp [showP], (Row.view (hR.keep (Ext.refl (fun _ => False) w41).drew fun _ _ e => e)).keepF E6 (fun j hj e => by have := ho j hj; omega), fun j hj => by have := ho j hj; omega⟩
end
end Sw
end Go.Proofs.YtcblpehnkogfdaaGreatDoor
/- Shown strings: String and Step, whole. Conditions: sizes, the laid tables. -/
namespace Go.Proofs.YtcblpehnkogfdaaGreatDoor
namespace Sw
open Sh Mat Fix Fo
set_option linter.unusedVariables false
set_option linter.unusedSimpArgs false
set_option maxRecDepth 4000
set_option maxHeartbeats 4000000
attribute [local irreducible] Ld St Nw Nn Lt LdS
theorem c_caught_nil (a : Option Addr) (w : World) : C30 Value.nilIface a w (fun w1 => w1 = w) fun _ _ => False := by
  refine T30_nil _ _ _ _ ?_
  unfold S30_nil
  rfl
theorem c_caught {w0 w : World} {L : List (Nat × List Value × TypeId)} {b o : Nat} {cs : List Value} {t : TypeId} (H : Hn w0 w L) (e : Int) (i : Nat) (hi : L[i]? = some (b, cs, t)) (ho : o < cs.length) :
    C30 (gup e) (some ⟨b, o, none⟩) w (fun w1 => Hn w0 w1 (L.set i (b, cs.set o (.int .i64 e), t))) fun _ _ => False := by
  refine T30_T106 _ _ _ _ _ ?_
  unfold S30_T106
  have hi' : (L ++ [(w.heap.size, [.int .i64 0], 106)])[i]? = some (b, cs, t) := by
    rw [List.getElem?_append_left (List.getElem?_eq_some_iff.1 hi).1]; exact hi
  have hl : (L ++ [(w.heap.size, [.int .i64 0], 106)])[L.length]? = some (w.heap.size, [.int .i64 0], 106) := by simp
  refine H.nw' fun w2 H2 he2 => ?_
  refine H2.st' L.length hl (by simp) fun w3 H3 he3 => ?_
  have hlen : L.length < (L ++ [(w.heap.size, [Value.int .i64 0], 106)]).length := by simp
  refine H3.ld L.length (by rw [List.getElem?_set_self hlen]) rfl (Nn.of ?_)
  have H4 := H.keep he2
  have H5 := H4.other he3 (fun j hj => ⟨by rw [hj]; exact H.size, fun hm => by
    have := H.all_lt hm
    omega⟩)
  exact H5.st i hi ho fun w4 H6 => H6
section
variable {w : World} {g : GT} {x : FT} {f : Font}
theorem c_string (hT : TB w) (h : FoV w x f) (m : Mx) {s : ByteArray} (hs : s.size ≤ 1048576) :
    C23 g m x s w fun r m2 e w1 => Ext (fun _ => False) w w1 ∧ ∃ L, stringF g m f s = (L, m2, e) ∧ VRow w1 r 9 (L.flatMap glc) ∧ ∀ j, r.own j → w.heap.size ≤ j := by
  refine T23 _ _ _ _ _ _ ?_
  unfold S23
  refine Nw.of ?_
  have H := gr_blk w g
  generalize w.alloc (.cells (Sig.cells LiA30 g).toArray 31) = wa at *
  refine H.nw fun w6 H => H.nw fun w7 H => H.nw fun w8 H => H.nw fun w9 H => H.nw fun w10 H => ?_
  refine H.ldT (i := 0) (pre := []) (post := []) (ts := LiA30) (x := g) rfl rfl ?_
  refine H.ldT (i := 2) (pre := []) (post := []) (ts := LiA34) (x := x) rfl rfl ?_
  refine H.ld 1 rfl (x := m.1) rfl (H.ld 1 rfl (x := m.2.1) rfl (H.ld 1 rfl (x := m.2.2.1) rfl (H.ld 1 rfl (x := m.2.2.2.1) rfl (H.ld 1 rfl (x := m.2.2.2.2.1) rfl (H.ld 1 rfl (x := m.2.2.2.2.2) rfl ?_)))))
  refine (c_text (g := g) (hT.keep H.ext) (h.keep H.ext) m hs).mono (fun r m2 w32 h32 => ?_) fun v w32 h32 => ?_
  · obtain ⟨hask, e32, L, hsp, hv, ho⟩ := h32
    have hF : stringF g m f s = (L, m2, 0) := by
      unfold stringF
      rw [if_neg (by rw [hask]; simp), hsp]
    have hne : ∀ (i : Nat) {b : Nat}, [w.heap.size, wa.heap.size, w6.heap.size, w7.heap.size, w8.heap.size, w9.heap.size][i]? = some b → ∀ j, r.own j → ¬ j = b := fun i b hi j hj e => by
      have h1 := ho j hj
      have h2 := H.all_lt (j := b) (List.mem_of_getElem? hi)
      omega
    have hof : ∀ j, r.own j → w.heap.size ≤ j := fun j hj => by
      have h1 := ho j hj
      have h2 := H.size
      omega
    have H := H.keep e32
    iterate 1 (refine H.st' 3 rfl (by simp) fun _ H he => ?_; replace hv := hv.keepF he (hne 3 rfl); clear he; simp only [List.nil_append, List.cons_append, List.set_cons_zero, List.set_cons_succ, Nat.zero_add] at H)
    iterate 6 (refine H.st' 4 rfl (by simp) fun _ H he => ?_; replace hv := hv.keepF he (hne 4 rfl); clear he; simp only [List.nil_append, List.cons_append, List.set_cons_zero, List.set_cons_succ, Nat.zero_add] at H)
    have H := H.drew
    replace hv := hv.keep (Ext.refl (fun _ => False) _).drew
    rename_i wq
    refine ⟨fun w' => Hn w w' [(w.heap.size, [.int .i64 (g.1), .int .i64 (g.2.1), .int .i64 (g.2.2.1), .int .i64 (g.2.2.2.1), .int .i64 (g.2.2.2.2.1), .int .i64 (g.2.2.2.2.2.1), .int .i64 (g.2.2.2.2.2.2.1), .int .i64 (g.2.2.2.2.2.2.2.1), .int .i64 (g.2.2.2.2.2.2.2.2.1), .int .i64 (g.2.2.2.2.2.2.2.2.2.1), Slc.v (g.2.2.2.2.2.2.2.2.2.2.1), .int .i64 (g.2.2.2.2.2.2.2.2.2.2.2.1), .int .i64 (g.2.2.2.2.2.2.2.2.2.2.2.2.1), .int .i64 (g.2.2.2.2.2.2.2.2.2.2.2.2.2.1), .int .i64 (g.2.2.2.2.2.2.2.2.2.2.2.2.2.2.1), .int .i64 (g.2.2.2.2.2.2.2.2.2.2.2.2.2.2.2.1), .int .i64 (g.2.2.2.2.2.2.2.2.2.2.2.2.2.2.2.2.1), .int .i64 (g.2.2.2.2.2.2.2.2.2.2.2.2.2.2.2.2.2.1), .int .i64 (g.2.2.2.2.2.2.2.2.2.2.2.2.2.2.2.2.2.2.1), .int .i64 (g.2.2.2.2.2.2.2.2.2.2.2.2.2.2.2.2.2.2.2.1), .int .i64 (g.2.2.2.2.2.2.2.2.2.2.2.2.2.2.2.2.2.2.2.2.1), .int .i64 (g.2.2.2.2.2.2.2.2.2.2.2.2.2.2.2.2.2.2.2.2.2.1), .int .i64 (g.2.2.2.2.2.2.2.2.2.2.2.2.2.2.2.2.2.2.2.2.2.2.1), .int .i64 (g.2.2.2.2.2.2.2.2.2.2.2.2.2.2.2.2.2.2.2.2.2.2.2.1), .int .i64 (g.2.2.2.2.2.2.2.2.2.2.2.2.2.2.2.2.2.2.2.2.2.2.2.2.1), .int .i64 (g.2.2.2.2.2.2.2.2.2.2.2.2.2.2.2.2.2.2.2.2.2.2.2.2.2.1), .int .i64 (g.2.2.2.2.2.2.2.2.2.2.2.2.2.2.2.2.2.2.2.2.2.2.2.2.2.2.1), .int .i64 (g.2.2.2.2.2.2.2.2.2.2.2.2.2.2.2.2.2.2.2.2.2.2.2.2.2.2.2.1), .string (g.2.2.2.2.2.2.2.2.2.2.2.2.2.2.2.2.2.2.2.2.2.2.2.2.2.2.2.2.1), .int .i64 (g.2.2.2.2.2.2.2.2.2.2.2.2.2.2.2.2.2.2.2.2.2.2.2.2.2.2.2.2.2)], 31), (wa.heap.size, mrow m, 24), (w6.heap.size, [.string (x.1), .bool (x.2.1), .int .i64 (x.2.2.1), Slc.v (x.2.2.2.1), .int .i64 (x.2.2.2.2.1), Slc.v (x.2.2.2.2.2.1), Slc.v (x.2.2.2.2.2.2)], 35), (w7.heap.size, [Slc.v r], 49), (w8.heap.size, mrow m2, 24), (w9.heap.size, [.int .i64 0], 43)], H, ?_⟩
    refine ldS_mk (x := r) (fun w' hw => by rw [(hw.get 3 rfl).cell]; rfl) ?_
    refine ldS_mk (x := m2.1) (fun w' hw => by rw [(hw.get 4 rfl).cell]; rfl) (ldS_mk (x := m2.2.1) (fun w' hw => (hw.get 4 rfl).cell 1) (ldS_mk (x := m2.2.2.1) (fun w' hw => (hw.get 4 rfl).cell 2) (ldS_mk (x := m2.2.2.2.1) (fun w' hw => (hw.get 4 rfl).cell 3) (ldS_mk (x := m2.2.2.2.2.1) (fun w' hw => (hw.get 4 rfl).cell 4) (ldS_mk (x := m2.2.2.2.2.2) (fun w' hw => (hw.get 4 rfl).cell 5) ?_)))))
    iterate 1 (refine H.st' 3 rfl (by simp) fun _ H he => ?_; replace hv := hv.keepF he (hne 3 rfl); clear he; simp only [List.nil_append, List.cons_append, List.set_cons_zero, List.set_cons_succ, Nat.zero_add] at H)
    refine ⟨H, ?_⟩
    iterate 6 (refine H.st' 4 rfl (by simp) fun _ H he => ?_; replace hv := hv.keepF he (hne 4 rfl); clear he; simp only [List.nil_append, List.cons_append, List.set_cons_zero, List.set_cons_succ, Nat.zero_add] at H)
    iterate 1 (refine H.st' 5 rfl (by simp) fun _ H he => ?_; replace hv := hv.keepF he (hne 5 rfl); clear he; simp only [List.nil_append, List.cons_append, List.set_cons_zero, List.set_cons_succ, Nat.zero_add] at H)
    refine T54_nil _ _ _ _ _ ?_
    unfold S54_nil
    refine (c_caught_nil _ _).mono (fun w1 h1 => ?_) fun _ _ h => h.elim
    subst h1
    refine H.ld 5 rfl (x := 0) rfl (Br.ne (fun h0 => absurd rfl h0) fun _ => ?_)
    refine H.ld 3 rfl (x := r) rfl ?_
    iterate 6 refine H.ld 4 rfl rfl ?_
    refine H.ld 5 rfl (x := 0) rfl ⟨H.ext, L, hF, hv, hof⟩
  · obtain ⟨e, rfl, he, hF, e32⟩ := h32
    have H := H.keep e32
    unfold S23P
    refine T54_T106 _ _ _ _ _ _ ?_
    unfold S54_T106
    refine (c_caught H e 5 rfl (by simp)).mono (fun w5 H => ?_) fun _ _ h => h.elim
    simp only [List.nil_append, List.cons_append, List.set_cons_zero, List.set_cons_succ, Nat.zero_add] at H
    refine H.ld 5 rfl (x := e) rfl (Br.ne (fun _ => ?_) fun h0 => absurd h0 he)
    iterate 1 (refine H.st 3 rfl (by simp) fun _ H => ?_; simp only [List.nil_append, List.cons_append, List.set_cons_zero, List.set_cons_succ, Nat.zero_add] at H)
    iterate 6 (refine H.st 4 rfl (by simp) fun _ H => ?_; simp only [List.nil_append, List.cons_append, List.set_cons_zero, List.set_cons_succ, Nat.zero_add] at H)
    refine H.ld 3 rfl (x := ⟨none, 0, 0⟩) rfl ?_
    iterate 6 refine H.ld 4 rfl rfl ?_
    refine H.ld 5 rfl (x := e) rfl ⟨H.ext, [], hF, Row.view (Row.nil _ 70 _), fun j hj => (no_own j hj).elim⟩
theorem c_stepW (hT : TB w) (h : FoV w x f) {code : Int} (hc : I64 code) : C11 g x code w fun r e w1 => (r, e) = stepF g f code ∧ Ext (fun _ => False) w w1 := by
  refine T11 _ _ _ _ _ ?_
  unfold S11
  refine Nw.of ?_
  have H := gr_blk w g
  generalize w.alloc (.cells (Sig.cells LiA30 g).toArray 31) = wa at *
  refine H.nw fun w5 H => H.nw fun w6 H => H.nw fun w7 H => ?_
  have bad : ∀ (e : Int) (w1 : World), e ≠ 0 → stepF g f code = (0, e) → Ext (fun _ => False) w7 w1 → S11P w5 w6 (fun r e w1 => (r, e) = stepF g f code ∧ Ext (fun _ => False) w w1) (gup e) w1 := fun e w1 he hF e1 => by
    have H := H.keep e1
    unfold S11P
    refine T29_T106 _ _ _ _ _ ?_
    unfold S29_T106
    refine (c_caught H e 3 rfl (by simp)).mono (fun w5 H => ?_) fun _ _ h => h.elim
    simp only [List.nil_append, List.cons_append, List.set_cons_zero, List.set_cons_succ, Nat.zero_add] at H
    refine H.ld 3 rfl (x := e) rfl (Br.ne (fun _ => ?_) fun h0 => absurd h0 he)
    iterate 1 (refine H.st 2 rfl (by simp) fun _ H => ?_; simp only [List.nil_append, List.cons_append, List.set_cons_zero, List.set_cons_succ, Nat.zero_add] at H)
    exact H.ld 2 rfl (x := 0) rfl (H.ld 3 rfl (x := e) rfl ⟨hF.symm, H.ext⟩)
  refine H.ldT (i := 0) (pre := []) (post := []) (ts := LiA30) (x := g) rfl rfl ?_
  refine (c_use g _).mono (fun w14 h14 => ?_) fun v w14 h14 => by
    obtain ⟨rfl, hg, e14⟩ := h14
    exact bad 2 w14 (by decide) (by unfold stepF; rw [if_pos hg]) e14
  obtain ⟨hg, e14⟩ := h14
  have E14 := e14.drew
  have H14 := H.keep E14
  refine ⟨Ext (fun _ => False) w14.drew, Ext.refl _ _, ?_⟩
  refine LdST.blk (ts := LiA34) (pre := []) (post := []) (t := 35) (x := x) (fun w' hw => hw.blk (H14.get 1 rfl) id) rfl ?_
  refine LdST.blk (ts := LiA34) (pre := []) (post := []) (t := 35) (x := x) (fun w' hw => hw.blk (H14.get 1 rfl) id) rfl ?_
  refine (c_chk (hT.keep H14.ext) (h.keep H14.ext)).mono ?_
  rintro r w19 ⟨rfl, e19⟩
  refine ⟨e19, (c_mustF x _ _).mono (fun r2 w21 h21 => ?_) fun v w21 h21 => ?_⟩
  case refine_2 =>
    obtain ⟨rfl, hk, e21⟩ := h21
    exact bad _ w21 hk (by unfold stepF; rw [if_neg (by simp [hg]), if_pos hk]) ((E14.tr e19).tr e21)
  obtain ⟨rfl, hk, e21⟩ := h21
  have hmay := chk_may hk
  have E21 := (E14.tr e19).tr e21
  have H21 := H.keep E21
  refine H21.ldT (i := 0) (pre := []) (post := []) (ts := LiA30) (x := g) rfl rfl ?_
  refine H21.ldT (i := 1) (pre := []) (post := []) (ts := LiA34) (x := r2) rfl rfl ?_
  refine (Hn.start w21).nw fun w24 K => ?_
  refine K.stT (i := 0) (pre := []) (post := []) (ts := LiA83) (x := hand g r2) (zs := [.int .i64 0, .int .i64 0, .int .i64 0, .int .i64 0, .int .i64 0, .int .i64 0, .int .i64 0, .int .i64 0, .int .i64 0, .int .i64 0, Slc.v ⟨none, 0, 0⟩, .int .i64 0, .int .i64 0, .int .i64 0, .int .i64 0, .int .i64 0, .int .i64 0, .int .i64 0, .int .i64 0, .int .i64 0, .int .i64 0, .int .i64 0, .int .i64 0, .int .i64 0, .int .i64 0, .int .i64 0, .int .i64 0, .int .i64 0, .string ⟨#[]⟩, .int .i64 0, .string ⟨#[]⟩, .bool false, .int .i64 0, Slc.v ⟨none, 0, 0⟩, .int .i64 0, Slc.v ⟨none, 0, 0⟩, Slc.v ⟨none, 0, 0⟩]) rfl rfl rfl fun w25 K => ?_
  have K := K.drew
  have E25 := E21.tr K.ext
  refine ⟨Ext (fun _ => False) w25.drew, Ext.refl _ _, ?_⟩
  refine LdST.blk (ts := LiA83) (pre := []) (post := []) (t := 84) (x := hand g r2) (fun w' hw => hw.blk (K.get 0 rfl) id) rfl ?_
  refine LdST.blk (ts := LiA83) (pre := []) (post := []) (t := 84) (x := hand g r2) (fun w' hw => hw.blk (K.get 0 rfl) id) rfl ?_
  have hF : stepF g f code = resI ((widthP g f code).bind fun w => stepP g f code w) := by
    unfold stepF
    rw [if_neg (by simp [hg]), if_neg (by simp [hk])]
  refine (c_wide (g := g) (h.keep (H.ext.tr E25)) hmay hc).mono (fun wd w30 h30 => ?_) fun v w30 h30 => by
    obtain ⟨rfl, hn, e30⟩ := h30
    exact bad 2 w30 (by decide) (by rw [hF, hn]; rfl) (E25.tr e30)
  obtain ⟨hwd, e30⟩ := h30
  refine ⟨e30, (c_step (g := g) (h.keep ((H.ext.tr E25).tr e30)) (useG_in hg).2.2.2.1).mono (fun st w32 h32 => ?_) fun v w32 h32 => by
    obtain ⟨rfl, hn, e32⟩ := h32
    exact bad 2 w32 (by decide) (by rw [hF, hwd]; show resI (stepP g f code wd) = _; rw [hn]; rfl) ((E25.tr e30).tr e32)⟩
  obtain ⟨hst, e32⟩ := h32
  have H := H.keep ((E25.tr e30).tr e32)
  iterate 1 (refine H.st 2 rfl (by simp) fun _ H => ?_; simp only [List.nil_append, List.cons_append, List.set_cons_zero, List.set_cons_succ, Nat.zero_add] at H)
  iterate 1 (refine H.st 3 rfl (by simp) fun _ H => ?_; simp only [List.nil_append, List.cons_append, List.set_cons_zero, List.set_cons_succ, Nat.zero_add] at H)
  refine T29_nil _ _ _ _ ?_
  unfold S29_nil
  refine (c_caught_nil _ _).mono (fun w1 h1 => ?_) fun _ _ h => h.elim
  subst h1
  refine H.ld 3 rfl (x := 0) rfl (Br.ne (fun h0 => absurd rfl h0) fun _ => ?_)
  exact H.ld 2 rfl (x := st) rfl (H.ld 3 rfl (x := 0) rfl ⟨by rw [hF, hwd]; show _ = resI (stepP g f code wd); rw [hst]; rfl, H.ext⟩)
end
end Sw
end Go.Proofs.YtcblpehnkogfdaaGreatDoor

/- Shown strings: what the law asks, plain. Conditions: none. -/
namespace Go.Proofs.YtcblpehnkogfdaaGreatDoor
namespace Sw
open Sh Mat Fix Fo
set_option linter.unusedVariables false
set_option linter.unusedSimpArgs false
set_option maxRecDepth 100000
set_option maxHeartbeats 4000000
def plainF : Font := ⟨⟨#[120]⟩, false, 65, [500], 0, [], []⟩
def g0 : GT := (10000, 0, 0, 10000, 0, 0, 10000, 0, 0, 100000, ⟨none, 0, 0⟩, 0, 0, 0, 0, 0, 0, 0, 0, 0, 0, 0, 0, 0, 1000000, 0, 100000, 0, ⟨#[]⟩, 0)
theorem g0_ctm : ctm g0 = one := rfl
theorem first_use : useG g0 = true := by decide
theorem first_chk : chkF plainF = 0 := by decide
theorem first_codes : codesF false ⟨#[65]⟩ = ([65], 0) := by decide
theorem u65 : usualB.getD 65 [] = [65] := by kernel_rfl
theorem i65 : usualB.findIdx? (fun m => decide (m = [65])) = some 65 := by kernel_rfl
theorem first_say : sayF plainF 65 = [65] := by
  unfold sayF signF
  show (if _ then _ else _) = _
  rw [if_neg (by rw [if_pos (show plainF.names = [] from rfl), usualB_len]; decide)]
  have h : (if plainF.names = [] then usualB else plainF.names.map bl).getD (65 : Int).toNat [] = [65] := by
    rw [if_pos (show plainF.names = [] from rfl)]
    exact u65
  rw [h]
  rw [if_neg (by decide), i65]
  rfl
theorem first_len : lenO (moveM 5 6) (0, 100000) = some 100000 := by
  have h : IsLen (moveM 5 6) (0, 100000) (100000, 0) := by
    unfold IsLen
    rw [show applyP (flat (moveM 5 6)) (0, 100000) = some (0, 100000) by decide]
    exact ⟨100000, ⟨by decide, by decide, by decide⟩, by decide⟩
  exact resI_yes (lenO_eq h)
theorem first_sign : signP g0 plainF (moveM 5 6) 65 = some ((65, ⟨#[65]⟩, 5, 6, 50005, 6, 100000, ⟨#[]⟩, 0), moveM 50005 6) := by
  unfold signP
  rw [show mulP (moveM 5 6) (ctm g0) = some (moveM 5 6) by decide, Option.bind_some, show widthP g0 plainF 65 = some 50000 by decide, Option.bind_some, show scaledP g0 50000 = some 50000 by decide, Option.bind_some,
    show applyP (moveM 5 6) (0, trise g0) = some (5, 6) by decide, Option.bind_some, show applyP (moveM 5 6) (50000, trise g0) = some (50005, 6) by decide, Option.bind_some, show lenO (moveM 5 6) (0, tsize g0) = some 100000 from first_len, Option.bind_some,
    show stepP g0 plainF 65 50000 = some 50000 by decide, Option.bind_some, show mulP (moveM 50000 0) (moveM 5 6) = some (moveM 50005 6) by decide, Option.bind_some, first_say]
  rfl
theorem first_string : stringF g0 (moveM 5 6) plainF ⟨#[65]⟩ = ([(65, ⟨#[65]⟩, 5, 6, 50005, 6, 100000, ⟨#[]⟩, 0)], moveM 50005 6, 0) := by
  unfold stringF
  rw [if_neg (by unfold askE; rw [if_neg (by decide), if_neg (by rw [first_chk]; decide), if_neg (by decide), if_neg (by decide)]; decide)]
  rw [show (codesF plainF.wide ⟨#[65]⟩).1 = [65] by decide]
  unfold showP
  rw [first_sign]
  rfl
theorem sign_facts {g : GT} {f : Font} {m m' : Mx} {c : Int} {gl : GlT} (h : signP g f m c = some (gl, m')) : ∃ (all : Mx) (a : Int × Int) (st : Int), mulP m (ctm g) = some all ∧ applyP all (0, trise g) = some a ∧
    ((widthP g f c).bind fun w => stepP g f c w) = some st ∧ mulP (moveM st 0) m = some m' ∧ gl.1 = c ∧ gl.2.1 = ⟨(sayF f c).toArray⟩ ∧ gl.2.2.1 = a.1 ∧ gl.2.2.2.1 = a.2 ∧ gl.2.2.2.2.2.2.2.1 = tfont g := by
  unfold signP at h
  obtain ⟨all, h1, h⟩ := Option.bind_eq_some_iff.1 h
  obtain ⟨wd, h2, h⟩ := Option.bind_eq_some_iff.1 h
  obtain ⟨en, h3, h⟩ := Option.bind_eq_some_iff.1 h
  obtain ⟨a, h4, h⟩ := Option.bind_eq_some_iff.1 h
  obtain ⟨b, h5, h⟩ := Option.bind_eq_some_iff.1 h
  obtain ⟨hi, h6, h⟩ := Option.bind_eq_some_iff.1 h
  obtain ⟨st, h7, h⟩ := Option.bind_eq_some_iff.1 h
  obtain ⟨m2, h8, h⟩ := Option.bind_eq_some_iff.1 h
  cases h
  exact ⟨all, a, st, h1, h4, by rw [h2]; exact h7, h8, rfl, rfl, rfl, rfl, rfl⟩
theorem mulP_ok {a b c : Mx} (h : mulP a b = some c) : Mat.okM c = true := by
  unfold mulP at h
  split at h
  · obtain ⟨x1, h1, h⟩ := Option.bind_eq_some_iff.1 h
    obtain ⟨x2, h2, h⟩ := Option.bind_eq_some_iff.1 h
    obtain ⟨x3, h3, h⟩ := Option.bind_eq_some_iff.1 h
    obtain ⟨x4, h4, h⟩ := Option.bind_eq_some_iff.1 h
    obtain ⟨x5, h5, h⟩ := Option.bind_eq_some_iff.1 h
    obtain ⟨x6, h6, h⟩ := Option.bind_eq_some_iff.1 h
    cases h
    unfold Mat.okM comps
    simp [dotP_in h1, dotP_in h2, dotP_in h3, dotP_in h4, dotP_in h5, dotP_in h6]
  · cases h
theorem showP_len {g : GT} {f : Font} : ∀ (cs : List Int) {m m' : Mx} {L : List GlT}, showP g f cs m = some (L, m') → L.length = cs.length
  | [], m, m', L, h => by cases h; rfl
  | c :: cs, m, m', L, h => by
    unfold showP at h
    obtain ⟨x, h1, h⟩ := Option.bind_eq_some_iff.1 h
    obtain ⟨y, h2, h⟩ := Option.bind_eq_some_iff.1 h
    cases h
    rw [List.length_cons, List.length_cons, showP_len cs (m' := y.2) (L := y.1) h2]
theorem showP_app {g : GT} {f : Font} : ∀ (c1 c2 : List Int) {m m' : Mx} {L : List GlT}, Mat.okM m = true → showP g f (c1 ++ c2) m = some (L, m') → ∃ (La Lb : List GlT) (m1 : Mx), showP g f c1 m = some (La, m1) ∧ showP g f c2 m1 = some (Lb, m') ∧ L = La ++ Lb ∧ Mat.okM m1 = true
  | [], c2, m, m', L, ho, h => ⟨[], L, m, rfl, h, rfl, ho⟩
  | c :: c1, c2, m, m', L, ho, h => by
    rw [List.cons_append] at h
    unfold showP at h
    obtain ⟨x, h1, h⟩ := Option.bind_eq_some_iff.1 h
    obtain ⟨y, h2, h⟩ := Option.bind_eq_some_iff.1 h
    cases h
    obtain ⟨all, a, st, _, _, _, hm, _⟩ := sign_facts (gl := x.1) (m' := x.2) h1
    obtain ⟨La, Lb, m1, g1, g2, g3, g4⟩ := showP_app c1 c2 (m' := y.2) (L := y.1) (mulP_ok hm) h2
    refine ⟨x.1 :: La, Lb, m1, ?_, g2, by rw [g3]; rfl, g4⟩
    unfold showP
    rw [h1]
    show Option.bind (showP g f c1 x.2) _ = _
    rw [g1]
    rfl
theorem pairs_app : ∀ (a b : By), a.length % 2 = 0 → pairs (a ++ b) = pairs a ++ pairs b
  | [], b, _ => rfl
  | [x], b, h => by simp at h
  | x :: y :: r, b, h => by
    show _ :: pairs (r ++ b) = _ :: (pairs r ++ pairs b)
    rw [pairs_app r b (by simp only [List.length_cons] at h; omega)]
theorem codes_cut {wide : Bool} {s : ByteArray} {k : Nat} (hk : k ≤ s.size) (hw : wide = true → k % 2 = 0) (h : (codesF wide s).2 = 0) :
    (codesF wide (s.extract 0 k)).2 = 0 ∧ (codesF wide (s.extract k s.size)).2 = 0 ∧ (codesF wide s).1 = (codesF wide (s.extract 0 k)).1 ++ (codesF wide (s.extract k s.size)).1 := by
  have e1 : bl (s.extract 0 k) = (bl s).take k := by
    unfold bl
    rw [extract_list]
    rfl
  have e2 : bl (s.extract k s.size) = (bl s).drop k := extract_drop s k
  have hl : (bl s).length = s.size := Array.length_toList
  unfold codesF at h ⊢
  cases wide with
  | false =>
    rw [if_pos rfl, if_pos rfl, if_pos rfl, e1, e2]
    refine ⟨rfl, rfl, ?_⟩
    simp only
    rw [← List.map_append, List.take_append_drop]
  | true =>
    have hk2 := hw rfl
    have z1 : (s.extract 0 k).size = k := by rw [ByteArray.size_extract]; omega
    have z2 : (s.extract k s.size).size = s.size - k := by rw [ByteArray.size_extract]; omega
    rw [if_neg (by decide)] at h ⊢
    by_cases hs : s.size % 2 = 0
    · rw [if_neg (by omega), if_neg (by decide), if_neg (by omega), if_neg (by decide), if_neg (by omega), e1, e2]
      refine ⟨rfl, rfl, ?_⟩
      simp only
      rw [← pairs_app _ _ (by rw [List.length_take]; omega), List.take_append_drop]
    · rw [if_pos (by omega)] at h
      cases h
theorem ask_parts {g : GT} {m : Mx} {f : Font} {s : ByteArray} (h : askE g m f s = 0) : useG g = true ∧ Mat.okM m = true ∧ chkF f = 0 ∧ (codesF f.wide s).2 = 0 ∧ (codesF f.wide s).1.length ≤ 16384 := by
  unfold askE at h
  split at h
  · cases h
  · rename_i h1
    split at h
    · rename_i h2
      exact absurd h h2
    · rename_i h2
      split at h
      · rename_i h3
        exact absurd h h3
      · rename_i h3
        split at h
        · cases h
        · rename_i h4
          refine ⟨?_, ?_, Decidable.of_not_not h2, Decidable.of_not_not h3, by omega⟩
          · cases hg : useG g with
            | true => rfl
            | false => exact absurd (.inl hg) h1
          · cases hg : Mat.okM m with
            | true => rfl
            | false => exact absurd (.inr hg) h1
theorem ask_of {g : GT} {m : Mx} {f : Font} {s : ByteArray} (h1 : useG g = true) (h2 : Mat.okM m = true) (h3 : chkF f = 0) (h4 : (codesF f.wide s).2 = 0) (h5 : (codesF f.wide s).1.length ≤ 16384) : askE g m f s = 0 := by
  unfold askE
  rw [if_neg (by simp [h1, h2]), if_neg (by simp [h3]), if_neg (by simp [h4]), if_neg (by omega)]
theorem string_of {g : GT} {m m' : Mx} {f : Font} {s : ByteArray} {L : List GlT} (h : askE g m f s = 0) (hs : showP g f (codesF f.wide s).1 m = some (L, m')) : stringF g m f s = (L, m', 0) := by
  unfold stringF
  rw [if_neg (by rw [h]; simp), hs]
theorem string_no {g : GT} {m m' : Mx} {f : Font} {s : ByteArray} {L : List GlT} {e : Int} (h : stringF g m f s = (L, m', e)) (he : e ≠ 0) : L = [] := by
  unfold stringF at h
  split at h
  · cases h; rfl
  · split at h
    · cases h; exact absurd rfl he
    · cases h; rfl
theorem string_yes {g : GT} {m m' : Mx} {f : Font} {s : ByteArray} {L : List GlT} (h : stringF g m f s = (L, m', 0)) : askE g m f s = 0 ∧ showP g f (codesF f.wide s).1 m = some (L, m') := by
  unfold stringF at h
  split at h
  · rename_i h1
    exact absurd (Prod.mk.inj (Prod.mk.inj h).2).2 h1
  · rename_i h1
    refine ⟨Decidable.of_not_not h1, ?_⟩
    split at h
    · rename_i x hx
      cases h
      exact hx
    · cases h
/-- A string shown in two parts. -/
theorem string_cut {g : GT} {m m' : Mx} {f : Font} {s : ByteArray} {L : List GlT} {k : Nat} (h : stringF g m f s = (L, m', 0)) (hk : k ≤ s.size) (hw : f.wide = true → k % 2 = 0) :
    ∃ La Lb m1, stringF g m f (s.extract 0 k) = (La, m1, 0) ∧ stringF g m1 f (s.extract k s.size) = (Lb, m', 0) ∧ L = La ++ Lb := by
  obtain ⟨ha, hs⟩ := string_yes h
  obtain ⟨p1, p2, p3, p4, p5⟩ := ask_parts ha
  obtain ⟨c1, c2, c3⟩ := codes_cut hk hw p4
  rw [c3] at hs p5
  rw [List.length_append] at p5
  obtain ⟨La, Lb, m1, g1, g2, g3, g4⟩ := showP_app _ _ p2 hs
  exact ⟨La, Lb, m1, string_of (ask_of p1 p2 p3 c1 (by omega)) g1, string_of (ask_of p1 g4 p3 c2 (by omega)) g2, g3⟩
end Sw
end Go.Proofs.YtcblpehnkogfdaaGreatDoor
