/- Reading order: Same. Conditions: sizes. -/
import Derived.Test.YtodhdkbhmkinjaaDoorOsL
namespace Go.Proofs.YtodhdkbhmkinjaaDoor
namespace Rdg
open Sh
set_option linter.unusedVariables false
set_option linter.unusedSimpArgs false
set_option maxRecDepth 4000
set_option maxHeartbeats 2000000
attribute [local irreducible] Ld St Nw Nn Lt LdS
def wdB (v u : Wd) : Bool := ((v.s.toList == u.s.toList) && (((v.box.1 == u.box.1) && ((v.box.2.1 == u.box.2.1) && ((v.box.2.2.1 == u.box.2.2.1) && ((v.box.2.2.2 == u.box.2.2.2) && true)))) && true))
theorem wd_eq (v u : Wd) : wdB v u = true ↔ v = u := by
  obtain ⟨⟨⟨s⟩⟩, a, b, c, d⟩ := v
  obtain ⟨⟨⟨t⟩⟩, a', b', c', d'⟩ := u
  unfold wdB
  rw [eqL]
  simp only [Bool.and_eq_true, beq_iff_eq, decide_eq_true_eq, Bool.and_true, Wd.mk.injEq, ByteArray.mk.injEq, Array.mk.injEq, Prod.mk.injEq]
def bxB (a b : R4) : Bool := ((a.1 == b.1) && ((a.2.1 == b.2.1) && ((a.2.2.1 == b.2.2.1) && ((a.2.2.2 == b.2.2.2) && true))))
theorem bx_eq (a b : R4) : bxB a b = true ↔ a = b := by
  obtain ⟨a1, a2, a3, a4⟩ := a
  obtain ⟨b1, b2, b3, b4⟩ := b
  unfold bxB
  simp only [Bool.and_eq_true, beq_iff_eq, Bool.and_true, Prod.mk.injEq]
/-- Two lists step by step. -/
theorem same_to {α : Type} {a b : List α} {i : Nat} (h : a.take i = b.take i) {x y : α} (hx : a[i]? = some x) (hy : b[i]? = some y) (e : x = y) : a.take (i + 1) = b.take (i + 1) := by
  rw [List.take_add_one, List.take_add_one, h, hx, hy, e]
theorem c_EqW {w : World} {s1 s2 : Slc} {a b : List Wd} (h1 : WsV w s1 a) (h2 : WsV w s2 b) (hl : a.length ≤ 1048576) : C38 s1 s2 w fun r w1 => (r = true ↔ a = b) ∧ Ext (fun _ => False) w w1 := by
  refine T38 _ _ _ _ ?_
  unfold S38
  have c1 := h1.count
  have c2 := h2.count
  by_cases hc : a.length = b.length
  · refine Br.f (by rw [c1, c2, hc]; simp) ?_
    refine ⟨fun m st w1 => ∃ i : Nat, st = (i : Int) ∧ i ≤ a.length ∧ m = a.length - i ∧ a.take i = b.take i ∧ Ext (fun _ => False) w w1, a.length, ⟨0, rfl, Nat.zero_le _, rfl, rfl, Ext.refl _ _⟩, ?_⟩
    rintro m st w4 ⟨i, rfl, hi, rfl, hs, e4⟩
    unfold S38L1
    rw [c1, c2]
    refine Br.dec (fun q => ?_) fun q => ?_
    · have hia : i < a.length := by omega
      have hib : i < b.length := by omega
      have e5 := e4.drew
      have ga : a[i]? = some a[i] := List.getElem?_eq_getElem hia
      have gb : b[i]? = some b[i] := List.getElem?_eq_getElem hib
      obtain ⟨p1, hp1, hd1⟩ := VRow.elem wcells_len (h1.keep e5) ga (by decide)
      obtain ⟨p2, hp2, hd2⟩ := VRow.elem wcells_len (h2.keep e5) gb (by decide)
      generalize a[i] = v at *
      generalize b[i] = u at *
      rw [hp1, hp2]
      refine ⟨by omega, by omega, Nn.of ?_⟩
      rw [Int.toNat_natCast]
      refine ldWA (v := v) (fun j c hj => by rw [add_add']; exact hd1 j c hj) ⟨by omega, by omega, Nn.of ?_⟩
      refine ldWA (v := u) (fun j c hj => by rw [add_add']; exact hd2 j c hj) (Lt.of ?_)
      show Br (!(wdB v u)) _ _
      cases hw : wdB v u with
      | true =>
        refine Br.f rfl ⟨a.length - (i + 1), by omega, i + 1, by rw [i64_id (by omega)]; rfl, by omega, rfl, same_to hs ga gb ((wd_eq v u).1 hw), e5⟩
      | false =>
        refine Br.t rfl ⟨⟨fun h => (by cases h), fun h => ?_⟩, e5⟩
        rw [h, gb] at ga
        cases ga
        rw [(wd_eq _ _).2 rfl] at hw
        cases hw
    · have : i = a.length := by omega
      subst this
      rw [List.take_length, hc, List.take_length] at hs
      exact ⟨⟨fun _ => hs, fun _ => rfl⟩, e4⟩
  · refine Br.t (by rw [c1, c2]; simp; omega) ⟨⟨fun h => (by cases h), fun h => absurd (congrArg List.length h) hc⟩, Ext.refl _ _⟩
theorem c_EqL {w : World} {x1 x2 : Slc} {b1 b2 : R4} {a b : List Wd} (h1 : WsV w x1 a) (h2 : WsV w x2 b) (hl : a.length ≤ 1048576) : C37 (lt5 (x1, b1)) (lt5 (x2, b2)) w fun r w1 => (r = true ↔ b1 = b2 ∧ a = b) ∧ Ext (fun _ => False) w w1 := by
  refine T37 (lt5 (x1, b1)) (lt5 (x2, b2)) _ _ ?_
  unfold S37
  refine (Hn.start w).nw fun w3 H => H.nw fun w4 H => ?_
  have H : Hn w w4 [(w.heap.size, lcells (x1, b1), 40), (w3.heap.size, lcells (x2, b2), 40)] := H
  refine H.ld 0 rfl (x := b1.1) rfl (H.ld 0 rfl (x := b1.2.1) rfl (H.ld 0 rfl (x := b1.2.2.1) rfl (H.ld 0 rfl (x := b1.2.2.2) rfl ?_)))
  refine H.ld 1 rfl (x := b2.1) rfl (H.ld 1 rfl (x := b2.2.1) rfl (H.ld 1 rfl (x := b2.2.2.1) rfl (H.ld 1 rfl (x := b2.2.2.2) rfl ?_)))
  show Br (bxB b1 b2) _ _
  cases hb : bxB b1 b2 with
  | true =>
    have hb := (bx_eq _ _).1 hb
    refine Br.t rfl (H.ld 0 rfl (x := x1) rfl (H.ld 1 rfl (x := x2) rfl ?_))
    refine (c_EqW (h1.keep H.ext) (h2.keep H.ext) hl).mono ?_
    rintro r w5 ⟨hr, e5⟩
    exact ⟨⟨fun h => ⟨hb, hr.1 h⟩, fun h => hr.2 h.2⟩, H.ext.tr e5⟩
  | false =>
    refine Br.f rfl ⟨⟨fun h => (by cases h), fun h => ?_⟩, H.ext⟩
    rw [(bx_eq _ _).2 h.1] at hb
    cases hb
theorem c_Same {w : World} {s1 s2 : Slc} {M Q : List Ln} {ss tt : List Slc} (h1 : LsV w s1 M ss) (h2 : LsV w s2 Q tt) (hl : M.length ≤ 1048576) (hw : ∀ m ∈ M, m.words.length ≤ 1048576) : C19 s1 s2 w fun r w1 => (r = true ↔ M = Q) ∧ Ext (fun _ => False) w w1 := by
  refine T19 _ _ _ _ ?_
  unfold S19
  refine T36_F37 _ _ _ _ ?_
  unfold S36_F37
  have c1 := h1.count
  have c2 := h2.count
  by_cases hc : M.length = Q.length
  · refine Br.f (by rw [c1, c2, hc]; simp) ?_
    refine ⟨fun m st w1 => ∃ i : Nat, st = (i : Int) ∧ i ≤ M.length ∧ m = M.length - i ∧ M.take i = Q.take i ∧ Ext (fun _ => False) w w1, M.length, ⟨0, rfl, Nat.zero_le _, rfl, rfl, Ext.refl _ _⟩, ?_⟩
    rintro m st w5 ⟨i, rfl, hi, rfl, hs, e5⟩
    unfold S36_F37L1
    rw [c1, c2]
    refine Br.dec (fun q => ?_) fun q => ?_
    · have hia : i < M.length := by omega
      have hib : i < Q.length := by omega
      have ga : M[i]? = some M[i] := List.getElem?_eq_getElem hia
      have gb : Q[i]? = some Q[i] := List.getElem?_eq_getElem hib
      have hmw := hw _ (List.getElem_mem hia)
      obtain ⟨p1, x1, hp1, _, hW1, hd1⟩ := (h1.keep e5).at ga
      obtain ⟨p2, x2, hp2, _, hW2, hd2⟩ := (h2.keep e5).at gb
      generalize M[i] = v at *
      generalize Q[i] = u at *
      rw [hp1, hp2]
      refine ⟨by omega, by omega, Nn.of ?_⟩
      rw [Int.toNat_natCast]
      refine ldLA (p := (x1, v.box)) (fun j c hj => by rw [add_add']; exact hd1 j c hj) ?_
      refine (Hn.start w5).nw fun w9 H => ?_
      have H : Hn w5 w9 [(w5.heap.size, lcells (⟨none, 0, 0⟩, zB), 40)] := H
      refine stLn (p := (x1, v.box)) H 0 rfl fun w10 H => ⟨by omega, by omega, Nn.of ?_⟩
      simp only [List.set_cons_zero] at H
      refine ldLA (p := (x2, u.box)) (fun j c hj => by rw [add_add']; exact H.ext.cell_same (hd2 j c hj)) ?_
      refine H.nw fun w13 H => ?_
      have H : Hn w5 w13 [(w5.heap.size, lcells (x1, v.box), 40), (w10.heap.size, lcells (⟨none, 0, 0⟩, zB), 40)] := H
      refine stLn (p := (x2, u.box)) H 1 rfl fun w14 H => ?_
      simp only [List.set_cons_zero, List.set_cons_succ] at H
      refine ldLn H 0 rfl (ldLn H 1 rfl ?_)
      refine (c_EqL (b1 := v.box) (b2 := u.box) (hW1.keep H.ext) (hW2.keep H.ext) hmw).mono ?_
      rintro r w18 ⟨hr, e18⟩
      have E := e5.tr (H.ext.tr e18)
      cases r with
      | true =>
        obtain ⟨hb, hws⟩ := hr.1 rfl
        refine Br.f rfl ⟨M.length - (i + 1), by omega, i + 1, by rw [i64_id (by omega)]; rfl, by omega, rfl, same_to hs ga gb ?_, E⟩
        cases v
        cases u
        cases hb
        cases hws
        rfl
      | false =>
        refine Br.t rfl ⟨⟨fun h => (by cases h), fun h => ?_⟩, E⟩
        rw [h, gb] at ga
        cases ga
        have := hr.2 ⟨rfl, rfl⟩
        cases this
    · have : i = M.length := by omega
      subst this
      rw [List.take_length, hc, List.take_length] at hs
      exact ⟨⟨fun _ => hs, fun _ => rfl⟩, e5⟩
  · refine Br.t (by rw [c1, c2]; simp; omega) ⟨⟨fun h => (by cases h), fun h => absurd (congrArg List.length h) hc⟩, Ext.refl _ _⟩
end Rdg
end Go.Proofs.YtodhdkbhmkinjaaDoor
