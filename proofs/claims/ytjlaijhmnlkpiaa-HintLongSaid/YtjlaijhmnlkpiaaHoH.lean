/- Hints: lives(), HintOne: the walks. Conditions: none. -/
import Derived.Test.YtjlaijhmnlkpiaaHiT
import Derived.Test.YtjlaijhmnlkpiaaFnLawH
namespace Go.Proofs.Ytjlaijhmnlkpiaa
namespace Hint
open Sh Bit
set_option linter.unusedVariables false
set_option linter.unusedSimpArgs false
set_option maxRecDepth 100000
set_option maxHeartbeats 2000000
abbrev lvA : ByteArray := ⟨#[0, 0, 0, 1, 0, 0, 0, 3, 0, 0, 0, 100, 0, 0, 0, 20, 0, 0, 0, 0, 0, 0]⟩
abbrev lvB : ByteArray := ⟨#[0, 0, 0, 2, 0, 0, 0, 3, 0, 0, 0, 100, 0, 0, 0, 20, 0, 1, 0, 0, 0, 2, 64, 32]⟩
theorem lv_a : textH [(3, 100, 20)] = (lvA, 0) := by decide +kernel
theorem lv_b : textH [(3, 100, 20), (4, 100, 22)] = (lvB, 0) := by decide +kernel
theorem lv_n : textH [] = (⟨#[]⟩, 1) := by decide +kernel
theorem lv_r : textH [(8192, 0, 0)] = (⟨#[]⟩, 2) := by decide +kernel
theorem not_good {s : ByteArray} (h : textH (dec s) ≠ (s, 0)) (L : List Hi) : ¬ Good s L := fun g => h (by rw [g.dec]; exact textH_good g)
theorem good_of {s : ByteArray} {L : List Hi} (h : textH L = (s, 0)) : Good s L := by obtain ⟨a, b⟩ := textH_zero h.symm; exact ⟨a, b.symm⟩
theorem lv_1 : textH (dec (lvB ++ (⟨#[0]⟩ : ByteArray))) ≠ (lvB ++ (⟨#[0]⟩ : ByteArray), 0) := by decide +kernel
theorem lv_2 : textH (dec (⟨#[]⟩ : ByteArray)) ≠ (⟨#[]⟩, 0) := by decide +kernel
theorem lv_3 : textH (dec (lvA.extract 0 21)) ≠ (lvA.extract 0 21, 0) := by decide +kernel
theorem hv_blk {w : World} {g n : Nat} {L : List Hi} {t : TypeId} (h : Blk w g (L.flatMap hrow).toArray t) (hn : n = L.length) : HV w ⟨some ⟨g, 0, none⟩, n, n⟩ L := ⟨hn, VRow.of h (by rw [h_len, hn])⟩
theorem hv_nil (w : World) : HV w ⟨none, 0, 0⟩ [] := ⟨rfl, rfl, fun j v h => by cases h⟩
theorem Told.good {w1 : World} {s : ByteArray} {r : Slc} {e : Int} {L : List Hi} (h : Told w1 s r e) (g : Good s L) : e = 0 ∧ HV w1 r L := by
  rcases h with ⟨_, _, h⟩ | ⟨h1, M, h2, h3⟩
  · exact absurd g (h L)
  · rw [h3.uniq g] at h2; exact ⟨h1, h2⟩
theorem Told.bad {w1 : World} {s : ByteArray} {r : Slc} {e : Int} (h : Told w1 s r e) (g : ∀ L, ¬ Good s L) : e = 32 ∧ r = ⟨none, 0, 0⟩ := by
  rcases h with ⟨h1, h2, _⟩ | ⟨_, M, _, h3⟩
  · exact ⟨h1, h2⟩
  · exact absurd h3 (g M)
attribute [local irreducible] Ld St Nw Nn Lt LdS
theorem c_lives (w : World) : C37 w fun r w1 => r = true ∧ Ext (fun _ => False) w w1 := by
  refine T37 _ _ ?_
  unfold S37
  refine (Hn.start w).nw fun w2 H => ?_
  refine (c_text (hv_blk (L := [(3, 100, 20)]) (H.get 0 rfl) rfl)).mono ?_
  rintro a e1 w3 ⟨h, he⟩
  have H := H.keep he
  rw [lv_a] at h
  cases h
  refine H.nw fun w4 H => ?_
  refine (c_text (hv_blk (L := [(3, 100, 20), (4, 100, 22)]) (H.get 1 rfl) rfl)).mono ?_
  rintro b e2 w5 ⟨h, he⟩
  have H := H.keep he
  rw [lv_b] at h
  cases h
  refine (c_text (hv_nil _)).mono ?_
  rintro x3 e3 w6 ⟨h, he⟩
  have H := H.keep he
  rw [lv_n] at h
  cases h
  refine H.nw fun w7 H => ?_
  refine (c_text (hv_blk (L := [(8192, 0, 0)]) (H.get 2 rfl) rfl)).mono ?_
  rintro x4 e4 w8 ⟨h, he⟩
  have H := H.keep he
  rw [lv_r] at h
  cases h
  refine Br.f rfl ?_
  refine (c_read (by decide) _).mono ?_
  rintro l e5 w9 ⟨h5, he⟩
  have H := H.keep he
  obtain ⟨rfl, hv⟩ := h5.good (good_of lv_b)
  refine ⟨by decide, (c_read (by decide) _).mono ?_⟩
  rintro l6 e6 w10 ⟨h6, he⟩
  have H := H.keep he
  have hv := hv.keep he
  obtain ⟨rfl, rfl⟩ := h6.bad (not_good lv_1)
  refine (c_read (by decide) _).mono ?_
  rintro l7 e7 w11 ⟨h7, he⟩
  have H := H.keep he
  have hv := hv.keep he
  obtain ⟨rfl, rfl⟩ := h7.bad (not_good lv_2)
  refine ⟨by decide, by decide, (c_read (s := lvA.extract 0 21) (by decide) _).mono ?_⟩
  rintro l8 e8 w12 ⟨h8, he⟩
  have H := H.keep he
  have hv := hv.keep he
  obtain ⟨rfl, rfl⟩ := h8.bad (not_good lv_3)
  refine Br.f (by decide) (Lt.of (Br.f (by simp) (Br.f rfl ⟨by decide, by decide, Lt.of (Br.f ?_ (Br.f rfl (Br.f rfl (Br.f rfl ?_))))⟩)))
  · rw [ByteArray.toList_eq, ByteArray.toList_eq]
    decide
  rw [hv.1]
  refine Br.t rfl ⟨by decide, by decide, ?_⟩
  obtain ⟨p, hp, k0, k1, k2⟩ := hv.get (i := 1) (o := (4, 100, 22)) rfl
  rw [hp]
  refine Nn.of (Ld.mk k0 (Ld.mk k1 (Ld.mk k2 (Br.t rfl (Br.t rfl (Br.t rfl (Br.t rfl (Br.t rfl ?_))))))))
  refine (c_need (by decide) _).mono ?_
  rintro r _ ⟨rfl, rfl⟩
  refine Br.t (by decide) ((c_need (by decide) _).mono ?_)
  rintro r _ ⟨rfl, rfl⟩
  refine Br.t (by decide) ((c_need (by decide) _).mono ?_)
  rintro r _ ⟨rfl, rfl⟩
  refine Br.t (by decide) ((c_need (by decide) _).mono ?_)
  rintro r _ ⟨rfl, rfl⟩
  refine Br.t (by decide) ((c_need (by decide) _).mono ?_)
  rintro r _ ⟨rfl, rfl⟩
  exact ⟨by decide, H.ext⟩
theorem one_law (s : ByteArray) (w : World) : C10 s w fun r w1 => r = true ∧ Ext (fun _ => False) w w1 := by
  refine T10 _ _ _ ?_
  unfold S10
  refine (c_lives _).mono ?_
  rintro r w1 ⟨rfl, e1⟩
  refine Br.f rfl (Br.dec (fun _ => ⟨rfl, e1⟩) fun hs => (c_read (by omega) _).mono ?_)
  rintro l e w2 ⟨h, e2⟩
  rcases h with ⟨rfl, rfl, hn⟩ | ⟨rfl, L, hv, hg⟩
  · exact Br.t rfl (Br.t rfl ⟨rfl, e1.tr e2⟩)
  · refine Br.f rfl ((c_text hv).mono ?_)
    rintro t no w3 ⟨h, e3⟩
    rw [textH_good hg] at h
    cases h
    exact Br.t (by simp) ⟨rfl, e1.tr (e2.tr e3)⟩
end Hint
end Go.Proofs.Ytjlaijhmnlkpiaa
