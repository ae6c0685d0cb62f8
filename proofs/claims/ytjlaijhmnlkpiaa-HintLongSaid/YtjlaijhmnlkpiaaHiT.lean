/- Hints: hint.Read. Conditions: sizes. -/
import Derived.Test.YtjlaijhmnlkpiaaHiS
namespace Go.Proofs.Ytjlaijhmnlkpiaa
namespace Hint
open Sh Bit
set_option linter.unusedVariables false
set_option linter.unusedSimpArgs false
set_option maxRecDepth 4000
set_option maxHeartbeats 2000000
/-- What both Reads answer. -/
def Told (w1 : World) (s : ByteArray) (r : Slc) (e : Int) : Prop := (e = 32 ∧ r = ⟨none, 0, 0⟩ ∧ ∀ L, ¬ Good s L) ∨ (e = 0 ∧ ∃ L, HV w1 r L ∧ Good s L)
theorem textH_zero {L : List Hi} {x : ByteArray} (h : (x, 0) = textH L) : whyH L = 0 ∧ x = bytesH L := by
  unfold textH at h
  split at h
  · rename_i h0; cases h; exact ⟨h0, rfl⟩
  · rename_i h0; exact absurd (Prod.mk.inj h).2.symm h0
theorem textH_good {s : ByteArray} {L : List Hi} (h : Good s L) : textH L = (s, 0) := by
  unfold textH
  rw [if_pos h.1, ← h.2]
  rfl
theorem HV.keepF {F : Nat → Prop} {w w' : World} {s : Slc} {L : List Hi} (h : HV w s L) (he : Ext F w w') (hF : ∀ j, s.own j → ¬ F j) : HV w' s L := ⟨h.1, h.2.keepF he hF⟩
attribute [local irreducible] Ld St Nw Nn Lt LdS
theorem c_d1 {w0 w : World} {b1 b2 : Nat} {t1 t2 : TypeId} {v1 v2 : Value} (H : Hn w0 w [(b1, [v1], t1), (b2, [v2], t2)]) :
    CD78 (⟨b1, 0, none⟩ : Addr) (⟨b2, 0, none⟩ : Addr) (some gup) w fun w1 => Hn w0 w1 [(b1, [Slc.v ⟨none, 0, 0⟩], t1), (b2, [.int .i64 32], t2)] := by
  refine T78_T109 _ _ () _ _ ?_
  unfold S78_T109
  refine H.nw fun w2 H => ?_
  simp only [List.cons_append, List.nil_append] at H
  iterate 1 (refine H.st 0 rfl (by simp) fun _ H => ?_; simp only [List.nil_append, List.cons_append, List.set_cons_zero, List.set_cons_succ, Nat.zero_add] at H)
  iterate 1 (refine H.st 1 rfl (by simp) fun _ H => ?_; simp only [List.nil_append, List.cons_append, List.set_cons_zero, List.set_cons_succ, Nat.zero_add] at H)
  exact H.left (L := [_, _]) (M := [_])
theorem c_read {s : ByteArray} (hs : s.size ≤ 1000000) (w : World) : C40 s w fun r e w1 => Told w1 s r e ∧ Ext (fun _ => False) w w1 := by
  refine T40 _ _ _ ?_
  unfold S40
  refine (Hn.start w).nw fun w2 H => H.nw fun w3 H => ?_
  simp only [List.cons_append, List.nil_append] at H
  have bad : ∀ {w4 : World} {v1 v2 : Value}, Hn w w4 [(w.heap.size, [v1], 59), (w2.heap.size, [v2], 34)] → (∀ L, ¬ Good s L) → S40P w w2 (fun r e w1 => Told w1 s r e ∧ Ext (fun _ => False) w w1) gup w4 := fun {w4 v1 v2} H hn => by
    unfold S40P
    refine (c_d1 H).mono fun w5 H => ?_
    refine H.ld 0 rfl rfl (H.ld 1 rfl rfl ⟨.inl ⟨rfl, rfl, hn⟩, H.ext⟩)
  have hsz0 : w.heap.size < w3.heap.size ∧ w2.heap.size < w3.heap.size := ⟨H.lt 0 rfl, H.lt 1 rfl⟩
  refine (c_from _ _).mono ?_
  rintro r w4 ⟨rfl, hrd, he⟩
  have h : HR w3 w4 [] w3.heap.size s 0 := ⟨(Hn.start w3).keep he, ⟨by omega, 0, .inl rfl, hrd⟩, Nat.le_refl _, by simp⟩
  refine (c_eread h hs).mono ?_ ?_
  rotate_left
  · rintro v w5 ⟨rfl, hn, he⟩
    exact bad (H.keep he) hn
  rintro l w5 ⟨hv, hown, he⟩
  have H := H.keep he
  refine H.st' 0 rfl (by simp) fun w6 H he6 => ?_
  simp only [List.set_cons_zero, List.set_cons_succ] at H
  iterate 1 refine H.ld 0 rfl rfl ?_
  have hlt0 := H.lt 0 rfl
  have hsz : w.heap.size < w3.heap.size ∧ w2.heap.size < w3.heap.size := hsz0
  have hv6 : HV w6 l (dec s) := hv.keepF he6 fun j hj e => by have := hown j hj; have e : j = w.heap.size := e; omega
  refine (c_text hv6).mono ?_
  rintro x e w7 ⟨hx, he⟩
  have H := H.keep he
  refine Br.ne (fun h0 => bad H fun L hg => ?_) fun h0 => ?_
  · rw [hg.dec, textH_good hg] at hx
    cases hx
    exact h0 rfl
  subst h0
  obtain ⟨g1, g2⟩ := textH_zero hx
  refine Br_of (fun h1 => bad H fun L hg => ?_) fun h1 => ?_
  · rw [g2, hg.dec, hg.2] at h1
    simp at h1
  have hg : Good s (dec s) := ⟨g1, by
    have h2 : x.toList = s.toList := by simpa using h1
    rw [ByteArray.toList_eq, ByteArray.toList_eq] at h2
    rw [← g2]
    exact ba_ext h2⟩
  have hv7 := hv6.keep he
  iterate 1 refine H.ld 0 rfl rfl ?_
  refine H.st' 0 rfl (by simp) fun w8 H he8 => ?_
  simp only [List.set_cons_zero, List.set_cons_succ] at H
  have hv8 := hv7.keepF he8 fun j hj e => by have := hown j hj; have e : j = w.heap.size := e; omega
  refine H.st' 1 rfl (by simp) fun w9 H he9 => ?_
  simp only [List.set_cons_zero, List.set_cons_succ] at H
  have hv9 := hv8.keepF he9 fun j hj e => by have := hown j hj; have e : j = w2.heap.size := e; omega
  refine T78_nil _ _ _ _ ?_
  unfold S78_nil
  exact H.ld 0 rfl rfl (H.ld 1 rfl rfl ⟨.inr ⟨rfl, dec s, hv9, hg⟩, H.ext⟩)
end Hint
end Go.Proofs.Ytjlaijhmnlkpiaa
