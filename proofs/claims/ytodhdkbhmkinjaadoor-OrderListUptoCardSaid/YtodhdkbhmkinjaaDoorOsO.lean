/- Order's laws: lives. Conditions: none. -/
import Derived.Test.YtodhdkbhmkinjaaDoorOsN
namespace Go.Proofs.YtodhdkbhmkinjaaDoor
namespace Rdg
open Sh
set_option linter.unusedVariables false
set_option linter.unusedSimpArgs false
set_option maxRecDepth 100000
set_option maxHeartbeats 2000000
attribute [local irreducible] Ld St Nw Nn Lt LdS
def GL : List Sg := [⟨0, ⟨#[100]⟩, 0, -20, 5, -20, 12, ⟨#[]⟩, 0, 0⟩, ⟨0, ⟨#[97]⟩, 0, 0, 5, 0, 12, ⟨#[]⟩, 0, 0⟩, ⟨0, ⟨#[98]⟩, 5, 0, 10, 0, 12, ⟨#[]⟩, 0, 0⟩, ⟨0, ⟨#[99]⟩, 20, 0, 25, 0, 12, ⟨#[]⟩, 0, 0⟩]
def LL : List Ln := [⟨[⟨⟨#[97, 98]⟩, (0, 0, 10, 12)⟩, ⟨⟨#[99]⟩, (20, 0, 25, 12)⟩], (0, 0, 25, 12)⟩, ⟨[⟨⟨#[100]⟩, (0, -20, 5, -8)⟩], (0, -20, 5, -8)⟩]
theorem GL_lines : linesF (allF GL) = LL := by kernel_rfl
theorem GL_words : allW (allF GL) = [⟨⟨#[97, 98]⟩, (0, 0, 10, 12)⟩, ⟨⟨#[99]⟩, (20, 0, 25, 12)⟩, ⟨⟨#[100]⟩, (0, -20, 5, -8)⟩] := by kernel_rfl
theorem GL_text : tl LL = [97, 98, 32, 99, 10, 100, 10] := by kernel_rfl
theorem GL_ok : ∀ g ∈ GL, GOk g := fun g hg => by
  unfold GL at hg
  simp only [List.mem_cons, List.not_mem_nil, or_false] at hg
  rcases hg with rfl | rfl | rfl | rfl <;> exact ⟨by unfold I64; decide, by unfold I64; decide, by unfold I64; decide, by unfold I64; decide, by unfold I64; decide, by unfold I64; decide, by unfold I64; decide, by decide⟩
theorem c_glyphs (w : World) : C23 w fun r w1 => GsV w1 r GL ∧ Ext (fun _ => False) w w1 := by
  refine T23 _ _ ?_
  unfold S23
  refine Nw.of ⟨⟨VRow.of (Blk.new w _ _) rfl, GL_ok, by decide, by decide⟩, (Ext.refl _ w).alloc _⟩
theorem c_lives (w : World) : C8 w fun r w1 => r = true ∧ Ext (fun _ => False) w w1 := by
  refine T8 _ _ ?_
  unfold S8
  refine (c_glyphs w).mono ?_
  rintro r1 w2 ⟨hG1, e2⟩
  refine (c_Lines hG1).mono ?_
  rintro r3 w4 ⟨⟨ss, hL⟩, e4⟩
  rw [GL_lines] at hL
  refine (c_glyphs w4).mono ?_
  rintro r5 w6 ⟨hG2, e6⟩
  refine (c_Words hG2).mono ?_
  rintro r7 w8 ⟨hW, e8⟩
  rw [GL_words] at hW
  have hL := hL.keep (e6.tr e8)
  have c3 := hL.count
  have c7 := hW.count
  have E8 := e2.tr (e4.tr (e6.tr e8))
  refine Br.f (by rw [c3]; rfl) ?_
  obtain ⟨a, x, ha, hx, hW0, hc⟩ := hL.at (i := 0) rfl
  have cx := hW0.count
  rw [ha]
  refine ⟨by decide, by rw [c3]; decide, Nn.of ?_⟩
  refine Ld.mk (x := x) (by have := hc 0 _ rfl; simpa using this) ?_
  refine Br.f (by rw [cx]; rfl) (Br.f (by rw [c7]; rfl) ?_)
  refine ⟨by decide, by rw [c3]; decide, Nn.of ?_⟩
  refine Ld.mk (x := x) (by have := hc 0 _ rfl; simpa using this) ?_
  obtain ⟨a0, ha0, hd0⟩ := VRow.elem wcells_len hW0 (i := 0) rfl (by decide)
  rw [ha0]
  refine ⟨by decide, by rw [cx]; decide, Nn.of ?_⟩
  refine ldWA (v := ⟨⟨#[97, 98]⟩, (0, 0, 10, 12)⟩) (fun j c hj => by rw [add_add']; exact hd0 j c hj) (Lt.of ?_)
  refine Br.t (by kernel_rfl) ?_
  refine ⟨by decide, by rw [c3]; decide, Nn.of ?_⟩
  simp only [add_add']
  refine Ld.mk (x := (0 : Int)) (hc 1 _ rfl) (Ld.mk (x := (0 : Int)) (hc 2 _ rfl) (Ld.mk (x := (25 : Int)) (hc 3 _ rfl) (Ld.mk (x := (12 : Int)) (hc 4 _ rfl) ?_)))
  refine Br.t (by decide) ?_
  obtain ⟨a1, ha1, hd1⟩ := VRow.elem wcells_len hW (i := 1) rfl (by decide)
  obtain ⟨a2, ha2, hd2⟩ := VRow.elem wcells_len hW (i := 2) rfl (by decide)
  rw [ha1]
  refine ⟨by decide, by rw [c7]; decide, Nn.of ?_⟩
  refine Ld.mk (x := (⟨#[99]⟩ : ByteArray)) (hd1 0 _ rfl) (Br.t (by kernel_rfl) ⟨by decide, by rw [c7]; decide, ?_⟩)
  rw [ha1] at ha2
  cases ha2
  refine Nn.of (Ld.mk (x := (⟨#[100]⟩ : ByteArray)) (hd2 0 _ rfl) (Br.t (by kernel_rfl) ?_))
  refine (c_Text hL (by decide) (by decide) (by rw [GL_text]; decide)).mono ?_
  rintro r27 w28 ⟨rfl, e28⟩
  rw [GL_text]
  refine Br.t (by kernel_rfl) ?_
  refine (c_glyphs w28).mono ?_
  rintro r29 w30 ⟨hG3, e30⟩
  refine (c_Lines hG3).mono ?_
  rintro r31 w32 ⟨⟨tt, hL3⟩, e32⟩
  rw [GL_lines] at hL3
  have hLd := hL.keep (e28.tr (e30.tr e32))
  refine (c_Same hLd hL3 (by decide) (by decide)).mono ?_
  rintro r33 w34 ⟨h33, e34⟩
  have h33 := h33.2 rfl
  subst h33
  refine Br.t rfl ?_
  refine (c_Same (hLd.keep e34) (Q := []) (tt := []) ⟨rfl, Row.view (Row.nil w34 40 5), fun i x q h => by simp at h⟩ (by decide) (by decide)).mono ?_
  rintro r35 w36 ⟨h35, e36⟩
  have h35 : r35 = false := by
    cases r35 with
    | false => rfl
    | true => exact absurd (h35.1 rfl) (by unfold LL; simp)
  subst h35
  refine Br.t rfl ?_
  refine (c_Box ⟨0, ⟨#[]⟩, 3, 4, 1, 2, 5, ⟨#[]⟩, 0, 0⟩ w36).mono ?_
  rintro r37 w38 ⟨rfl, e38⟩
  exact ⟨by kernel_rfl, E8.tr (e28.tr (e30.tr (e32.tr (e34.tr (e36.tr e38)))))⟩
end Rdg
end Go.Proofs.YtodhdkbhmkinjaaDoor
