/- Order's laws: the reference's List and Same. Conditions: sizes. -/
import Derived.Test.YtodhdkbhmkinjaaDoorOsQ
import Derived.Test.YtodhdkbhmkinjaaDoorFnOr
namespace Go.Proofs.YtodhdkbhmkinjaaDoor
namespace Rdg
open Sh
set_option linter.unusedVariables false
set_option linter.unusedSimpArgs false
set_option maxRecDepth 4000
set_option maxHeartbeats 2000000
attribute [local irreducible] Ld St Nw Nn Lt LdS
theorem c_RList {w : World} {s1 s2 : Slc} {a b : List Wd} (h1 : WsV w s1 a) (h2 : WsV w s2 b) (hl : a.length ≤ 1048576) : C14 s1 s2 w fun r w1 => (r = true ↔ a = b) ∧ Ext (fun _ => False) w w1 := by
  refine T14 _ _ _ _ ?_
  unfold S14
  have c1 := h1.count
  have c2 := h2.count
  by_cases hc : a.length = b.length
  · refine Br.f (by rw [c1, c2, hc]; simp) ?_
    refine ⟨fun m st w1 => ∃ i : Nat, st = (i : Int) ∧ i ≤ a.length ∧ m = a.length - i ∧ a.take i = b.take i ∧ Ext (fun _ => False) w w1, a.length, ⟨0, rfl, Nat.zero_le _, rfl, rfl, Ext.refl _ _⟩, ?_⟩
    rintro m st w4 ⟨i, rfl, hi, rfl, hs, e4⟩
    unfold S14L1
    rw [c1, c2]
    refine Br.dec (fun q => ?_) fun q => ?_
    · have hia : i < a.length := by omega
      have hib : i < b.length := by omega
      have e5 := e4.drew
      have ga : a[i]? = some a[i] := List.getElem?_eq_getElem hia
      have gb : b[i]? = some b[i] := List.getElem?_eq_getElem hib
      obtain ⟨p1, hp1, hd1⟩ := VRow.elem wcells_len (h1.keep e5) ga (by decide)
      obtain ⟨p2, hp2, hd2⟩ := VRow.elem wcells_len (h2.keep e5) gb (by decide)
      generalize a[i] = v at *
      generalize b[i] = u at *
      rw [hp1, hp2]
      refine ⟨by omega, by omega, Nn.of ?_⟩
      rw [Int.toNat_natCast]
      refine ldWA (v := v) (fun j c hj => by rw [add_add']; exact hd1 j c hj) ⟨by omega, by omega, Nn.of ?_⟩
      refine ldWA (v := u) (fun j c hj => by rw [add_add']; exact hd2 j c hj) (Lt.of ?_)
      show Br (!(wdB v u)) _ _
      cases hw : wdB v u with
      | true =>
        refine Br.f rfl ⟨a.length - (i + 1), by omega, i + 1, by rw [i64_id (by omega)]; rfl, by omega, rfl, same_to hs ga gb ((wd_eq v u).1 hw), e5⟩
      | false =>
        refine Br.t rfl ⟨⟨fun h => (by cases h), fun h => ?_⟩, e5⟩
        rw [h, gb] at ga
        cases ga
        rw [(wd_eq _ _).2 rfl] at hw
        cases hw
    · have : i = a.length := by omega
      subst this
      rw [List.take_length, hc, List.take_length] at hs
      exact ⟨⟨fun _ => hs, fun _ => rfl⟩, e4⟩
  · refine Br.t (by rw [c1, c2]; simp; omega) ⟨⟨fun h => (by cases h), fun h => absurd (congrArg List.length h) hc⟩, Ext.refl _ _⟩
theorem c_RSame {w : World} {s1 s2 : Slc} {M Q : List Ln} {ss tt : List Slc} (h1 : LsV w s1 M ss) (h2 : LsV w s2 Q tt) (hl : M.length ≤ 1048576) (hw : ∀ m ∈ M, m.words.length ≤ 1048576) : C13 s1 s2 w fun r w1 => (r = true ↔ M = Q) ∧ Ext (fun _ => False) w w1 := by
  refine T13 _ _ _ _ ?_
  unfold S13
  have c1 := h1.count
  have c2 := h2.count
  by_cases hc : M.length = Q.length
  · refine Br.f (by rw [c1, c2, hc]; simp) ?_
    refine ⟨fun m st w1 => ∃ i : Nat, st = (i : Int) ∧ i ≤ M.length ∧ m = M.length - i ∧ M.take i = Q.take i ∧ Ext (fun _ => False) w w1, M.length, ⟨0, rfl, Nat.zero_le _, rfl, rfl, Ext.refl _ _⟩, ?_⟩
    rintro m st w5 ⟨i, rfl, hi, rfl, hs, e4⟩
    unfold S13L1
    rw [c1, c2]
    refine Br.dec (fun q => ?_) fun q => ?_
    · have hia : i < M.length := by omega
      have hib : i < Q.length := by omega
      have e5 := e4.drew
      have ga : M[i]? = some M[i] := List.getElem?_eq_getElem hia
      have gb : Q[i]? = some Q[i] := List.getElem?_eq_getElem hib
      have hmw := hw _ (List.getElem_mem hia)
      obtain ⟨p1, x1, hp1, _, hW1, hd1⟩ := (h1.keep e5).at ga
      obtain ⟨p2, x2, hp2, _, hW2, hd2⟩ := (h2.keep e5).at gb
      generalize M[i] = v at *
      generalize Q[i] = u at *
      rw [hp1, hp2]
      have b1 : (0 : Int) ≤ (i : Int) := by omega
      have b2 : (i : Int) < ((M.length : Nat) : Int) := by omega
      have b3 : (i : Int) < ((Q.length : Nat) : Int) := by omega
      rw [Int.toNat_natCast]
      simp only [add_add']
      refine ⟨b1, b2, Nn.of ?_⟩
      refine Ld.mk (x := v.box.1) (hd1 1 _ rfl) (Ld.mk (x := v.box.2.1) (hd1 2 _ rfl) (Ld.mk (x := v.box.2.2.1) (hd1 3 _ rfl) (Ld.mk (x := v.box.2.2.2) (hd1 4 _ rfl) ⟨b1, b3, Nn.of ?_⟩)))
      refine Ld.mk (x := u.box.1) (hd2 1 _ rfl) (Ld.mk (x := u.box.2.1) (hd2 2 _ rfl) (Ld.mk (x := u.box.2.2.1) (hd2 3 _ rfl) (Ld.mk (x := u.box.2.2.2) (hd2 4 _ rfl) ?_)))
      show Br (!(bxB v.box u.box)) _ _
      cases hb : bxB v.box u.box with
      | false =>
        refine Br.t rfl ⟨⟨fun h => (by cases h), fun h => ?_⟩, e5⟩
        rw [h, gb] at ga
        cases ga
        rw [(bx_eq _ _).2 rfl] at hb
        cases hb
      | true =>
      have hb := (bx_eq _ _).1 hb
      refine Br.f rfl ⟨b1, b2, Nn.of (Ld.mk (x := x1) (hd1 0 _ rfl) ⟨b1, b3, Nn.of (Ld.mk (x := x2) (hd2 0 _ rfl) ?_)⟩)⟩
      refine (c_RList hW1 hW2 hmw).mono ?_
      rintro r w18 ⟨hr, e18⟩
      have E := e5.tr e18
      cases r with
      | true =>
        refine Br.f rfl ⟨M.length - (i + 1), by omega, i + 1, by rw [i64_id (by omega)]; rfl, by omega, rfl, same_to hs ga gb ?_, E⟩
        have hws := hr.1 rfl
        cases v
        cases u
        cases hb
        cases hws
        rfl
      | false =>
        refine Br.t rfl ⟨⟨fun h => (by cases h), fun h => ?_⟩, E⟩
        rw [h, gb] at ga
        cases ga
        have := hr.2 rfl
        cases this
    · have : i = M.length := by omega
      subst this
      rw [List.take_length, hc, List.take_length] at hs
      exact ⟨⟨fun _ => hs, fun _ => rfl⟩, e4⟩
  · refine Br.t (by rw [c1, c2]; simp; omega) ⟨⟨fun h => (by cases h), fun h => absurd (congrArg List.length h) hc⟩, Ext.refl _ _⟩
end Rdg
end Go.Proofs.YtodhdkbhmkinjaaDoor
