/- Paths: New, Segs, Same, Paint. Conditions: sizes; the table of painting operators is laid. -/
import Derived.Test.YtjbeembbnkmpeaaDoorPaF
import Derived.Test.YtjbeembbnkmpeaaDoorShT
import Derived.Test.YtjbeembbnkmpeaaDoorFnPaR
namespace Go.Proofs.YtjbeembbnkmpeaaDoor
namespace Pat
open Sh Mat Fix Opr
set_option linter.unusedVariables false
set_option linter.unusedSimpArgs false
set_option maxRecDepth 8000
set_option maxHeartbeats 8000000
instance sgDec : DecidableEq Sg := fun a b => decidable_of_iff (a.1 = b.1 ∧ a.2.1 = b.2.1 ∧ a.2.2.1 = b.2.2.1 ∧ a.2.2.2.1 = b.2.2.2.1 ∧ a.2.2.2.2.1 = b.2.2.2.2.1 ∧ a.2.2.2.2.2.1 = b.2.2.2.2.2.1 ∧ a.2.2.2.2.2.2 = b.2.2.2.2.2.2) (by
  obtain ⟨a1, a2, a3, a4, a5, a6, a7⟩ := a
  obtain ⟨b1, b2, b3, b4, b5, b6, b7⟩ := b
  simp only [Prod.mk.injEq])
/-- A row of segments of its own. -/
def SO (w0 w : World) (r : Slc) (L : List Sg) : Prop := Row w r 67 7 (sgs L) ∧ ∀ j, r.own j → w0.heap.size ≤ j
theorem SO.sv {w0 w : World} {r : Slc} {L : List Sg} (h : SO w0 w r L) : SV w r L := SV.row h.1
theorem SO.nil (w0 w : World) : SO w0 w nilS [] := ⟨Row.nil _ _ _, fun j hj => by obtain ⟨a, ha, _⟩ := hj; cases ha⟩
def pa0 : Pa := ⟨[], (0, 0), false⟩
section
variable {w0 w w' w1 w7 : World} {s s2 sg : Slc} {L M : List Sg} {b : Nat} {p : Pa}
theorem PV.new (h : Blk w b (parow nilS (0, 0) false).toArray 134) : PV w b pa0 nilS := ⟨h, Row.nil _ _ _, fun j hj => (by obtain ⟨a, ha, _⟩ := hj; cases ha), by decide⟩
attribute [local irreducible] Ld Sh.St Nw Nn LdS LdT LdST StT
theorem c_new (w : World) : C22 w fun r w1 => ∃ b, r = some ⟨b, 0, none⟩ ∧ w.heap.size ≤ b ∧ PV w1 b pa0 nilS ∧ Ext (fun _ => False) w w1 := by
  refine T22 _ _ ?_
  unfold S22
  refine (Hn.start w).nw fun w2 H => ?_
  exact ⟨_, rfl, Nat.le_refl _, PV.new (H.get 0 rfl), H.ext⟩
theorem c_clone (h : SV w s L) (hl : L.length ≤ 100000) : C86 s w fun r w1 => SO w w1 r L ∧ Ext (fun _ => False) w w1 := by
  refine T86 _ _ _ ?_
  unfold S86
  obtain ⟨p, n, c⟩ := s
  cases p with
  | none =>
    have : L = [] := by
      cases L with
      | nil => rfl
      | cons y r =>
        obtain ⟨a, ha, _⟩ := h.get (i := 0) rfl
        cases ha
    subst this
    exact ⟨SO.nil _ _, Ext.refl _ _⟩
  | some a =>
    show Nw _ _ _
    refine (Hn.start w).nw (cs := []) fun w2 H => ?_
    have hb := H.get 0 rfl
    have e2 := H.ext
    have hlen := h.1
    obtain ⟨s', w', r1, r2, r3, r4, r5⟩ := elSg.app (ty := 64) (s := ⟨some ⟨w.heap.size, 0, none⟩, 0, 0⟩) (xs := []) (w := w2) ⟨by simp, .inr ⟨_, #[], rfl, hb, Nat.le_refl _, by simp, by simp⟩⟩ (h.keep e2).2 (sgs_one L) (by simp only at hlen ⊢; omega) (by simp only at hlen ⊢; omega)
    have ho : ∀ j, s'.own j → w.heap.size ≤ j := fun j hj => by
      rcases r5 j hj with hh | hh
      · obtain ⟨a', ha, rfl⟩ := hh
        cases ha
        exact Nat.le_refl _
      · have := e2.size; omega
    refine ⟨s', w', r1, ⟨by simpa using r2, ho⟩, Ext.new e2 r4 fun j hj => ?_⟩
    obtain ⟨a', ha, rfl⟩ := hj
    cases ha
    exact Nat.le_refl _
theorem c_segs (h : PV w b p sg) : C25 (some ⟨b, 0, none⟩) w fun r w1 => SO w w1 r p.L ∧ Ext (fun _ => False) w w1 := by
  refine T25 _ _ _ ?_
  unfold S25
  refine Br.f rfl (Nn.of (Ld.of h.blk rfl ?_))
  exact c_clone h.sv (by have := h.few; omega)
theorem c_segs0 (w : World) : C25 none w fun r w1 => r = nilS ∧ w1 = w := by
  refine T25 _ _ _ ?_
  unfold S25
  exact Br.t rfl ⟨rfl, rfl⟩
theorem seg_eq (o q : Sg) : (!((o.1 == q.1) && (((o.2.1 == q.2.1) && ((o.2.2.1 == q.2.2.1) && true)) && (((o.2.2.2.1 == q.2.2.2.1) && ((o.2.2.2.2.1 == q.2.2.2.2.1) && true)) && (((o.2.2.2.2.2.1 == q.2.2.2.2.2.1) && ((o.2.2.2.2.2.2 == q.2.2.2.2.2.2) && true)) && true))))) = decide (o ≠ q) := by
  obtain ⟨a1, a2, a3, a4, a5, a6, a7⟩ := o
  obtain ⟨b1, b2, b3, b4, b5, b6, b7⟩ := q
  rw [Bool.eq_iff_iff]
  simp
  omega
theorem c_equal (h : SV w s L) (h2 : SV w s2 M) (hl : L.length ≤ 100000) : C88 s s2 w fun r w1 => r = decide (L = M) ∧ Ext (fun _ => False) w w1 := by
  refine T88 _ _ _ _ ?_
  unfold S88
  rw [h.1, h2.1]
  refine Br.ne (fun q => ⟨?_, Ext.refl _ _⟩) fun q => ?_
  · symm
    rw [decide_eq_false_iff_not]
    rintro rfl
    exact q rfl
  have hLM : L.length = M.length := by omega
  refine ⟨fun n st w3 => ∃ i : Nat, st = (i : Int) ∧ i ≤ L.length ∧ n = L.length - i ∧ L.take i = M.take i ∧ Ext (fun _ => False) w w3, L.length, ⟨0, rfl, by omega, rfl, by simp, Ext.refl _ _⟩, ?_⟩
  rintro n st w3 ⟨i, rfl, hi, rfl, hall, e3⟩
  unfold S88L1
  rw [h.1, h2.1]
  refine Br.dec (fun q => ?_) fun q => ?_
  · have e3 := e3.drew
    have hL : L[i]? = some L[i] := List.getElem?_eq_getElem (by omega)
    have hM : M[i]? = some M[i] := List.getElem?_eq_getElem (by omega)
    have tL : L.take (i + 1) = L.take i ++ [L[i]] := by rw [List.take_add_one, hL]; rfl
    have tM : M.take (i + 1) = M.take i ++ [M[i]] := by rw [List.take_add_one, hM]; rfl
    generalize L[i] = o at hL tL
    generalize M[i] = q' at hM tM
    obtain ⟨a1, ha1, c1⟩ := (h.keep e3).get hL
    obtain ⟨a2, ha2, c2⟩ := (h2.keep e3).get hM
    have c10 := c1 0 _ rfl
    rw [add_add', Nat.add_zero] at c10
    have c20 := c2 0 _ rfl
    rw [add_add', Nat.add_zero] at c20
    rw [ha1, ha2, Int.toNat_natCast]
    refine ⟨by omega, by omega, Nn.of (Ld.mk c10 (Ld.mk (c1 1 _ rfl) (Ld.mk (c1 2 _ rfl) (Ld.mk (c1 3 _ rfl) (Ld.mk (c1 4 _ rfl) (Ld.mk (c1 5 _ rfl) (Ld.mk (c1 6 _ rfl) ?_)))))))⟩
    refine ⟨by omega, by omega, Nn.of (Ld.mk c20 (Ld.mk (c2 1 _ rfl) (Ld.mk (c2 2 _ rfl) (Ld.mk (c2 3 _ rfl) (Ld.mk (c2 4 _ rfl) (Ld.mk (c2 5 _ rfl) (Ld.mk (c2 6 _ rfl) (Lt.of ?_))))))))⟩
    rw [seg_eq]
    refine Br.dec (fun hne => ⟨?_, e3⟩) fun heq => ?_
    · symm
      rw [decide_eq_false_iff_not]
      rintro rfl
      rw [hL] at hM
      cases hM
      exact hne rfl
    · refine ⟨L.length - (i + 1), by omega, i + 1, by rw [i64_id (by omega)]; rfl, by omega, rfl, ?_, e3⟩
      rw [tL, tM, hall, Decidable.not_not.1 heq]
  · refine ⟨?_, e3⟩
    symm
    rw [decide_eq_true_iff]
    rwa [List.take_of_length_le (by omega), List.take_of_length_le (by omega)] at hall
theorem c_same (h : SV w s L) (h2 : SV w s2 M) (hl : L.length ≤ 100000) : C28 s s2 w fun r w1 => r = decide (L = M) ∧ Ext (fun _ => False) w w1 := by
  refine T28 _ _ _ _ ?_
  unfold S28
  exact c_equal h h2 hl
end
end Pat
end Go.Proofs.YtjbeembbnkmpeaaDoor
