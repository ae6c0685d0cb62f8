/- Numbers among operands: their row, ops.Nums. Conditions: sizes. -/
import Derived.Test.YtcblpehnkogfdaaGreatDoorPaA
import Derived.Test.YtcblpehnkogfdaaGreatDoorOpC
namespace Go.Proofs.YtcblpehnkogfdaaGreatDoor
namespace Pat
open Sh Mat Fix Opr
set_option linter.unusedVariables false
set_option linter.unusedSimpArgs false
set_option maxRecDepth 4000
set_option maxHeartbeats 4000000
def ints (l : List Int) : List Value := l.map fun x => .int .i64 x
theorem elN : El Tryz.prog 25 2 1 8 (.int .i64 0) := ⟨by kernel_rfl, by kernel_rfl, by kernel_rfl, by kernel_rfl, rfl⟩
theorem ints_len (l : List Int) : (ints l).length = l.length := by unfold ints; simp
theorem ints_one (l : List Int) : ∀ v ∈ ints l, v.oneCell' = true := by
  intro v hv
  obtain ⟨x, _, rfl⟩ := List.mem_map.1 hv
  rfl
theorem ints_get {l : List Int} {i : Nat} (hi : i < l.length) : (ints l)[i]? = some (.int .i64 (l.getD i 0)) := by
  unfold ints
  rw [List.getElem?_map, List.getElem?_eq_getElem hi, List.getD_eq_getElem?_getD, List.getElem?_eq_getElem hi]
  rfl
theorem ints_set (l : List Int) (i : Nat) (x : Int) : (ints l).set i (.int .i64 x) = ints (l.set i x) := by unfold ints; rw [List.map_set]
theorem ints_app (l m : List Int) : ints (l ++ m) = ints l ++ ints m := by unfold ints; rw [List.map_append]
/-- The ints of a slice. -/
def IV (w : World) (s : Slc) (l : List Int) : Prop := s.len = l.length ∧ VRow w s 1 (ints l)
section
variable {w w' w1 : World} {s : Slc} {l : List Int} {L K : List Ob}
theorem IV.keep (h : IV w s l) (he : Ext (fun _ => False) w w') : IV w' s l := ⟨h.1, h.2.keep he⟩
theorem IV.keepF {F : Nat → Prop} (h : IV w s l) (he : Ext F w w') (hF : ∀ j, s.own j → ¬ F j) : IV w' s l := ⟨h.1, h.2.keepF he hF⟩
theorem IV.nil (w : World) : IV w ⟨none, 0, 0⟩ [] := ⟨rfl, rfl, fun j v h => by cases h⟩
theorem IV.get (h : IV w s l) {i : Nat} (hi : i < l.length) : ∃ a, s.p = some a ∧ w.cell? (a.add (i * 1)) = some (.int .i64 (l.getD i 0)) := by
  obtain ⟨a, ha, hc⟩ := h.2.2 i _ (ints_get hi)
  exact ⟨a, ha, by rw [Nat.mul_one]; exact hc⟩
theorem IV.row {t : TypeId} (h : Row w s t 1 (ints l)) : IV w s l := by
  refine ⟨?_, h.view⟩
  have := h.1
  rw [ints_len] at this
  omega
theorem Ext.new {F : Nat → Prop} {a b c : World} (h : Ext (fun _ => False) a b) (k : Ext F b c) (hF : ∀ j, F j → a.heap.size ≤ j) : Ext (fun _ => False) a c :=
  h.trans k (fun _ h => h) fun i hi hh => absurd hi (by have := hF i hh; omega)
/-- A row of ints of its own. -/
def IO (w0 w : World) (r : Slc) (l : List Int) : Prop := Row w r 2 1 (ints l) ∧ ∀ j, r.own j → w0.heap.size ≤ j
theorem IO.iv {w0 : World} {r : Slc} (h : IO w0 w r l) : IV w r l := IV.row h.1
theorem IO.nil (w0 w : World) : IO w0 w ⟨none, 0, 0⟩ [] := ⟨Row.nil _ _ _, fun j hj => by obtain ⟨a, ha, _⟩ := hj; cases ha⟩
theorem IO.snoc {w0 : World} {r : Slc} {x : Int} {ty : TypeId} {K : Slc → World → Prop} (h : IO w0 w r l) (he : Ext (fun _ => False) w0 w) (hl : l.length ≤ 1000000)
    (k : ∀ r' w', IO w0 w' r' (l ++ [x]) → Ext (fun _ => False) w0 w' → K r' w') :
    Nw w (.cells #[.int .i64 x] 2) fun w2 => Rn Tryz.prog (Builtin.append_ #[25, 25] ty #[Slc.v r, Slc.v (⟨some ⟨w.heap.size, 0, none⟩, 1, 1⟩ : Slc)]) w2 Slc.v fun (r' : Slc) w3 => K r' w3 := by
  refine (Hn.start w).nw fun w2 H => ?_
  have hb := H.get 0 rfl
  have e2 := H.ext
  have hlen := h.iv.1
  obtain ⟨s', w', r1, r2, r3, r4, r5⟩ := elN.app1 (ty := ty) (ys := [.int .i64 x]) (h.1.keep e2 fun _ _ e => e) hb rfl (by intro v hv; rw [List.mem_singleton.1 hv]; rfl) (by omega) (by omega)
  have E2 := he.tr e2
  refine ⟨s', w', r1, k s' w' ⟨by rw [ints_app]; exact r2, fun j hj => ?_⟩ (Ext.new E2 r4 h.2)⟩
  have := E2.size
  rcases r5 j hj with hh | hh
  · exact h.2 j hh
  · omega
end
def nmO : List Ob → Option (List Int)
  | [] => some []
  | o :: r => (numV o).bind fun n => (nmO r).bind fun l => some (n :: l)
theorem nmO_len : ∀ {L : List Ob} {l : List Int}, nmO L = some l → l.length = L.length
  | [], l, h => by cases h; rfl
  | o :: r, l, h => by
    unfold nmO at h
    cases hn : numV o with
    | none => rw [hn] at h; cases h
    | some n =>
      rw [hn, Option.bind_some] at h
      cases hr : nmO r with
      | none => rw [hr] at h; cases h
      | some l' =>
        rw [hr, Option.bind_some] at h
        cases h
        rw [List.length_cons, List.length_cons, nmO_len hr]
/-- What is left of the reading at place i, with l read so far. -/
def nmAt (L : List Ob) (i : Nat) (l : List Int) : Option (List Int) := (nmO (L.drop i)).bind fun r => some (l ++ r)
theorem nmAt_0 (L : List Ob) : nmAt L 0 [] = nmO L := by
  unfold nmAt
  rw [List.drop_zero]
  cases nmO L <;> rfl
theorem nmAt_end (L : List Ob) (l : List Int) : nmAt L L.length l = some l := by
  unfold nmAt
  rw [List.drop_length]
  simp [nmO]
theorem nmAt_no {L : List Ob} {i : Nat} (hi : i < L.length) (l : List Int) (hn : numV L[i] = none) : nmAt L i l = none := by
  unfold nmAt
  rw [List.drop_eq_getElem_cons hi]
  conv => lhs; unfold nmO
  rw [hn]
  rfl
theorem nmAt_yes {L : List Ob} {i : Nat} (hi : i < L.length) (l : List Int) {n : Int} (hn : numV L[i] = some n) : nmAt L i l = nmAt L (i + 1) (l ++ [n]) := by
  unfold nmAt
  rw [List.drop_eq_getElem_cons hi]
  conv => lhs; unfold nmO
  rw [hn]
  cases nmO (L.drop (i + 1)) with
  | none => rfl
  | some r => simp
section
variable {w0 w w' w1 : World} {s : Slc} {L : List Ob} {a d : ByteArray}
attribute [local irreducible] Ld Sh.St Nw Nn LdS
theorem c_nums (h : OV w s L) (hl : L.length ≤ 100000) (hk : ∀ o ∈ L, o.1 = 2 ∨ o.1 = 3) : C76 (a, s, d) w fun r e w1 => Ext (fun _ => False) w w1 ∧ match nmO L with
    | none => e = 2
    | some l => e = 0 ∧ IO w w1 r l := by
  refine T76 (a, s, d) _ _ ?_
  unfold S76
  refine (Hn.start w).nw fun w2 H => ?_
  simp only [List.nil_append, add_lit, Nat.zero_add] at H ⊢
  have hlen := h.1
  refine H.ld 0 rfl rfl ?_
  refine ⟨fun n st w3 => ∃ (i : Nat) (l : List Int), st.2 = (i : Int) ∧ i ≤ L.length ∧ n = L.length - i ∧ l.length ≤ i ∧ IO w w3 st.1 l ∧ Ext (fun _ => False) w w3 ∧ nmO L = nmAt L i l, L.length, ⟨0, [], rfl, by omega, rfl, Nat.le_refl _, IO.nil _ _, H.ext, (nmAt_0 L).symm⟩, ?_⟩
  clear H
  rintro n ⟨r, st⟩ w3 ⟨i, l, hst, hi, rfl, hll, ho, e3, hn⟩
  simp only at hst ho
  subst hst
  unfold S76L1
  dsimp only
  rw [hlen]
  refine Br.dec (fun q => ⟨by omega, by omega, ?_⟩) fun q => ?_
  · have hlt : i < L.length := by omega
    have hLi : L[i]? = some L[i] := List.getElem?_eq_getElem hlt
    obtain ⟨ad, ha, c0, c1, c2, c3, c4, c5⟩ := (h.keep e3).get hLi
    have hkk := hk L[i] (List.getElem_mem hlt)
    rw [ha, Int.toNat_natCast]
    refine Nn.of (Ld.mk c0 (Ld.mk c1 (Ld.mk c2 (Ld.mk c3 (Ld.mk c4 (Ld.mk c5 ?_))))))
    refine (Hn.start w3).nw fun w4 H => ?_
    simp only [List.nil_append, add_lit, Nat.zero_add] at H ⊢
    iterate 6 (refine H.st 0 rfl (by simp) fun _ H => ?_; simp only [List.set_cons_zero, List.set_cons_succ] at H)
    have num : ∀ (B : World → Prop) (K : Slc → World → Prop) (v : World), Ext (fun _ => False) w3 v → (numV L[i] = none → ∀ w5, Ext (fun _ => False) w w5 → B w5) → (∀ x r' w5, numV L[i] = some x → IO w w5 r' (l ++ [x]) → Ext (fun _ => False) w w5 → K r' w5) →
        C114 (L[i].1, L[i].2.1, L[i].2.2.1, L[i].2.2.2.1, L[i].2.2.2.2.1, L[i].2.2.2.2.2) v fun r28 r29 vw30 => Br (!r29) (B vw30) (Nw vw30 (.cells #[.int .i64 r28] 2) fun vw31 =>
            Rn Tryz.prog (Builtin.append_ #[25, 25] 25 #[Slc.v r, Slc.v ((⟨some ⟨vw30.heap.size, 0, none⟩, 1, 1⟩ : Slc))]) vw31 Slc.v fun (x32 : Slc) vw33 => K x32 vw33) := by
      intro B K v ev k1 k2
      refine (c_number L[i] v).mono ?_
      rintro x ok w5 ⟨hv, e5⟩
      have e35 := ev.tr e5
      cases hx : numV L[i] with
      | none =>
        rw [hx] at hv
        cases hv
        exact Br.t rfl (k1 hx w5 (e3.tr e35))
      | some y =>
        rw [hx] at hv
        cases hv
        exact Br.f rfl (IO.snoc (w0 := w) ⟨ho.1.keep e35 fun _ _ e => e, ho.2⟩ (e3.tr e35) (by omega) fun r' w' ho' e' => k2 x r' w' hx ho' e')
    have hw : IntKind.i64.wrap ((i : Int) + 1) = ((i + 1 : Nat) : Int) := by rw [i64_id (by omega)]; rfl
    rw [hw]
    have rest : ∀ x r' w5, numV L[i] = some x → IO w w5 r' (l ++ [x]) → Ext (fun _ => False) w w5 → ∃ m', m' < L.length - i ∧ ∃ (k : Nat) (l' : List Int), ((i + 1 : Nat) : Int) = (k : Int) ∧ k ≤ L.length ∧ m' = L.length - k ∧ l'.length ≤ k ∧ IO w w5 r' l' ∧ Ext (fun _ => False) w w5 ∧ nmO L = nmAt L k l' := fun x r' w5 hx ho' e' =>
      ⟨L.length - (i + 1), by omega, i + 1, l ++ [x], rfl, by omega, rfl, by rw [List.length_append, List.length_singleton]; omega, ho', e', hn.trans (nmAt_yes hlt l hx)⟩
    refine H.ld 0 rfl rfl (Br.ne (fun q2 => H.ld 0 rfl rfl (Br.ne (fun q3 => (hkk.elim q2 q3).elim) fun q3 => ?_)) fun q2 => ?_)
    · iterate 6 refine H.ld 0 rfl rfl ?_
      exact num _ _ _ H.ext (fun hx w5 e5 => by rw [hn, nmAt_no hlt l hx]; exact ⟨e5, by trivial⟩) rest
    · iterate 6 refine H.ld 0 rfl rfl ?_
      exact num _ _ _ H.ext (fun hx w5 e5 => by rw [hn, nmAt_no hlt l hx]; exact ⟨e5, by trivial⟩) rest
  · have : i = L.length := by omega
    subst this
    rw [nmAt_end] at hn
    rw [hn]
    exact ⟨e3, by trivial, ho⟩
end
end Pat
end Go.Proofs.YtcblpehnkogfdaaGreatDoor
