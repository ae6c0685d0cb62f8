/- Graphics states: numbers of operands, as the program reads them. Conditions: sizes. -/
import Derived.Test.YtjbeembbnkmpeaaDoorStA
import Derived.Test.YtjbeembbnkmpeaaDoorFnState
namespace Go.Proofs.YtjbeembbnkmpeaaDoor
namespace Ste
open Sh Mat Opr
set_option linter.unusedVariables false
set_option linter.unusedSimpArgs false
set_option maxRecDepth 4000
set_option maxHeartbeats 4000000
def ints (l : List Int) : List Value := l.map fun x => .int .i64 x
theorem elN : El Tryd.prog 24 2 1 8 (.int .i64 0) := ⟨by kernel_rfl, by kernel_rfl, by kernel_rfl, by kernel_rfl, rfl⟩
theorem ints_len (l : List Int) : (ints l).length = l.length := by unfold ints; simp
theorem ints_one (l : List Int) : ∀ v ∈ ints l, v.oneCell' = true := by
  intro v hv
  obtain ⟨x, _, rfl⟩ := List.mem_map.1 hv
  rfl
theorem ints_get {l : List Int} {i : Nat} (hi : i < l.length) : (ints l)[i]? = some (.int .i64 (l.getD i 0)) := by
  unfold ints
  rw [List.getElem?_map, List.getElem?_eq_getElem hi, List.getD_eq_getElem?_getD, List.getElem?_eq_getElem hi]
  rfl
theorem ints_set (l : List Int) (i : Nat) (x : Int) : (ints l).set i (.int .i64 x) = ints (l.set i x) := by unfold ints; rw [List.map_set]
theorem ints_app (l m : List Int) : ints (l ++ m) = ints l ++ ints m := by unfold ints; rw [List.map_append]
/-- The ints of a slice. -/
def IV (w : World) (s : Slc) (l : List Int) : Prop := s.len = l.length ∧ VRow w s 1 (ints l)
section
variable {w w' w1 : World} {s : Slc} {l : List Int} {L K : List Ob}
theorem IV.keep (h : IV w s l) (he : Ext (fun _ => False) w w') : IV w' s l := ⟨h.1, h.2.keep he⟩
theorem IV.keepF {F : Nat → Prop} (h : IV w s l) (he : Ext F w w') (hF : ∀ j, s.own j → ¬ F j) : IV w' s l := ⟨h.1, h.2.keepF he hF⟩
theorem IV.nil (w : World) : IV w ⟨none, 0, 0⟩ [] := ⟨rfl, rfl, fun j v h => by cases h⟩
theorem IV.get (h : IV w s l) {i : Nat} (hi : i < l.length) : ∃ a, s.p = some a ∧ w.cell? (a.add (i * 1)) = some (.int .i64 (l.getD i 0)) := by
  obtain ⟨a, ha, hc⟩ := h.2.2 i _ (ints_get hi)
  exact ⟨a, ha, by rw [Nat.mul_one]; exact hc⟩
theorem IV.row {t : TypeId} (h : Row w s t 1 (ints l)) : IV w s l := by
  refine ⟨?_, h.view⟩
  have := h.1
  rw [ints_len] at this
  omega
theorem Ext.new {F : Nat → Prop} {a b c : World} (h : Ext (fun _ => False) a b) (k : Ext F b c) (hF : ∀ j, F j → a.heap.size ≤ j) : Ext (fun _ => False) a c :=
  h.trans k (fun _ h => h) fun i hi hh => absurd hi (by have := hF i hh; omega)
/-- A row of ints of its own. -/
def IO (w0 w : World) (r : Slc) (l : List Int) : Prop := Row w r 2 1 (ints l) ∧ ∀ j, r.own j → w0.heap.size ≤ j
theorem IO.iv {w0 : World} {r : Slc} (h : IO w0 w r l) : IV w r l := IV.row h.1
theorem IO.nil (w0 w : World) : IO w0 w ⟨none, 0, 0⟩ [] := ⟨Row.nil _ _ _, fun j hj => by obtain ⟨a, ha, _⟩ := hj; cases ha⟩
attribute [local irreducible] Ld Sh.St Nw Nn Lt LdS LdT LdST StT
theorem IO.snoc {w0 : World} {r : Slc} {x : Int} {ty : TypeId} {K : Slc → World → Prop} (h : IO w0 w r l) (he : Ext (fun _ => False) w0 w) (hl : l.length ≤ 1000000)
    (k : ∀ r' w', IO w0 w' r' (l ++ [x]) → Ext (fun _ => False) w0 w' → K r' w') :
    Nw w (.cells #[.int .i64 x] 2) fun w2 => Rn Tryd.prog (Builtin.append_ #[24, 24] ty #[Slc.v r, Slc.v (⟨some ⟨w.heap.size, 0, none⟩, 1, 1⟩ : Slc)]) w2 Slc.v fun (r' : Slc) w3 => K r' w3 := by
  refine (Hn.start w).nw fun w2 H => ?_
  have hb := H.get 0 rfl
  have e2 := H.ext
  have hlen := h.iv.1
  obtain ⟨s', w', r1, r2, r3, r4, r5⟩ := elN.app1 (ty := ty) (ys := [.int .i64 x]) (h.1.keep e2 fun _ _ e => e) hb rfl (by intro v hv; rw [List.mem_singleton.1 hv]; rfl) (by omega) (by omega)
  have E2 := he.tr e2
  refine ⟨s', w', r1, k s' w' ⟨by rw [ints_app]; exact r2, fun j hj => ?_⟩ (Ext.new E2 r4 h.2)⟩
  have := E2.size
  rcases r5 j hj with hh | hh
  · exact h.2 j hh
  · omega
def stp (e : Int) : Value := .iface 178 (.agg #[.int .i64 e])
theorem c_must (b : Bool) (e : Int) (w : World) : C113 b e w (fun w1 => b = true ∧ w1 = w) fun v w1 => v = stp e ∧ b = false ∧ w1 = w := by
  refine T113 _ _ _ _ _ ?_
  unfold S113
  cases b
  · exact ⟨rfl, rfl, rfl⟩
  · exact ⟨rfl, rfl⟩
theorem c_num (o : Ob) (w : World) : C199 o w (fun r w1 => num o = .ok r ∧ Ext (fun _ => False) w w1) fun v w1 => ∃ e, num o = .error e ∧ v = stp e ∧ Ext (fun _ => False) w w1 := by
  refine T199 _ _ _ _ ?_
  unfold S199
  refine (Hn.start w).nw fun w2 H => ?_
  simp only [List.nil_append, add_lit, Nat.zero_add] at H ⊢
  iterate 6 refine H.ld 0 rfl rfl ?_
  refine (c_number o w2).mono ?_
  rintro r b w3 ⟨hr, e3⟩
  have E := H.ext.tr e3
  refine (c_must b 2 w3).mono ?_ ?_
  · rintro w4 ⟨rfl, rfl⟩
    refine ⟨?_, E⟩
    unfold num
    cases hn : numV o with
    | none => rw [hn] at hr; cases hr
    | some n => rw [hn] at hr; cases hr; rfl
  · rintro v w4 ⟨rfl, rfl, rfl⟩
    refine ⟨2, ?_, rfl, E⟩
    unfold num
    cases hn : numV o with
    | none => rfl
    | some n => rw [hn] at hr; cases hr
theorem c_abv (o : Ob) (w : World) : C165 o w (fun r w1 => abv o = .ok r ∧ Ext (fun _ => False) w w1) fun v w1 => ∃ e, abv o = .error e ∧ v = stp e ∧ Ext (fun _ => False) w w1 := by
  refine T165 _ _ _ _ ?_
  unfold S165
  refine (Hn.start w).nw fun w2 H => ?_
  simp only [List.nil_append, add_lit, Nat.zero_add] at H ⊢
  iterate 6 refine H.ld 0 rfl rfl ?_
  refine (c_num o w2).mono ?_ ?_
  · rintro r w3 ⟨hr, e3⟩
    have E := H.ext.tr e3
    refine (c_must _ 2 w3).mono ?_ ?_
    · rintro w4 ⟨h, rfl⟩
      refine ⟨?_, E⟩
      unfold abv
      rw [hr]
      exact if_pos (of_decide_eq_true h)
    · rintro v w4 ⟨rfl, h, rfl⟩
      refine ⟨2, ?_, rfl, E⟩
      unfold abv
      rw [hr]
      exact if_neg (of_decide_eq_false h)
  · rintro v w3 ⟨e, h, rfl, e3⟩
    exact ⟨e, by unfold abv; rw [h], rfl, H.ext.tr e3⟩
theorem c_whl (o : Ob) (most : Int) (hm : 0 ≤ most ∧ most ≤ 100) (w : World) : C166 o most w (fun r w1 => whl o most = .ok r ∧ Ext (fun _ => False) w w1) fun v w1 => ∃ e, whl o most = .error e ∧ v = stp e ∧ Ext (fun _ => False) w w1 := by
  refine T166 _ _ _ _ _ ?_
  unfold S166
  refine (Hn.start w).nw fun w2 H => ?_
  simp only [List.nil_append, add_lit, Nat.zero_add] at H ⊢
  iterate 6 refine H.ld 0 rfl rfl ?_
  refine (c_num o w2).mono ?_ ?_
  · rintro r w3 ⟨hr, e3⟩
    have E := H.ext.tr e3
    rw [i64_id (n := most * 10000) (by omega)]
    have no : ∀ {R : Int → World → Prop} {v : Value} {w4 : World}, ¬ (0 ≤ r ∧ r ≤ most * 10000 ∧ Int.tmod r 10000 = 0) → v = stp 2 → w4 = w3 → ∃ e, whl o most = .error e ∧ v = stp e ∧ Ext (fun _ => False) w w4 := fun {R v w4} h hv hw => by
      subst hv hw
      exact ⟨2, by unfold whl; rw [hr]; exact if_neg h, rfl, E⟩
    refine Br.dec (fun q => Br.dec (fun q2 => (c_must _ 2 w3).mono ?_ ?_) fun q2 => (c_must _ 2 w3).mono ?_ ?_) fun q => (c_must _ 2 w3).mono ?_ ?_
    · rintro w4 ⟨h, rfl⟩
      have h : Int.tmod r 10000 = 0 := by simpa using h
      have hr0 : 0 ≤ r := q
      rw [i64_id (n := Int.tdiv r 10000) (by rw [tdiv_id hr0]; omega)]
      exact ⟨by unfold whl; rw [hr]; exact if_pos ⟨q, q2, h⟩, E⟩
    · rintro v w4 ⟨rfl, h, rfl⟩
      have h : ¬ Int.tmod r 10000 = 0 := by simpa using h
      exact no (R := fun _ _ => True) (fun hh => h hh.2.2) rfl rfl
    · rintro w4 ⟨h, rfl⟩
      cases h
    · rintro v w4 ⟨rfl, h, rfl⟩
      exact no (R := fun _ _ => True) (fun hh => q2 hh.2.1) rfl rfl
    · rintro w4 ⟨h, rfl⟩
      cases h
    · rintro v w4 ⟨rfl, h, rfl⟩
      exact no (R := fun _ _ => True) (fun hh => q hh.1) rfl rfl
  · rintro v w3 ⟨e, h, rfl, e3⟩
    exact ⟨e, by unfold whl; rw [h], rfl, H.ext.tr e3⟩
theorem nums_step {L : List Ob} {i : Nat} {o : Ob} {l : List Int} (ho : L[i]? = some o) (h : nums L = (match nums (L.drop i) with
      | .error e => .error e
      | .ok r => .ok (l ++ r))) : (∀ n, num o = .ok n → nums L = (match nums (L.drop (i + 1)) with
      | .error e => .error e
      | .ok r => .ok ((l ++ [n]) ++ r))) ∧ ∀ e, num o = .error e → nums L = .error e := by
  obtain ⟨hlt, rfl⟩ := List.getElem?_eq_some_iff.1 ho
  rw [List.drop_eq_getElem_cons hlt] at h
  refine ⟨fun n hn => ?_, fun e he => ?_⟩
  · rw [h]
    simp only [nums, hn]
    cases nums (L.drop (i + 1)) with
    | error e => rfl
    | ok r => simp
  · rw [h]
    simp only [nums, he]
theorem c_nums {a d : ByteArray} (h : OV w s L) (hl : L.length ≤ 100000) : C198 (a, s, d) w (fun r w1 => ∃ l, nums L = .ok l ∧ IO w w1 r l ∧ l.length = L.length ∧ Ext (fun _ => False) w w1) fun v w1 => ∃ e, nums L = .error e ∧ v = stp e ∧ Ext (fun _ => False) w w1 := by
  refine T198 (a, s, d) _ _ _ ?_
  unfold S198
  refine (Hn.start w).nw fun w2 H => ?_
  simp only [List.nil_append] at H
  iterate 1 refine H.ld 0 rfl rfl ?_
  have e0 := H.ext
  refine ⟨fun n st w3 => ∃ (i : Nat) (l : List Int), st.2 = (i : Int) ∧ i ≤ L.length ∧ l.length = i ∧ n = L.length - i ∧ IO w w3 st.1 l ∧ Ext (fun _ => False) w w3 ∧ nums L = (match nums (L.drop i) with
      | .error e => .error e
      | .ok r => .ok (l ++ r)), L.length, ⟨0, [], rfl, by omega, rfl, rfl, IO.nil _ _, e0, by rw [List.drop_zero]; cases nums L <;> rfl⟩, ?_⟩
  clear H e0
  rintro n ⟨r, i⟩ w3 ⟨i, l, hi, hil, hll, rfl, ho, e3, hn⟩
  unfold S198L1
  dsimp only at *
  subst hi
  rw [h.1]
  refine Br.dec (fun q => ⟨by omega, by omega, ?_⟩) fun q => ?_
  · obtain ⟨o, hoi⟩ : ∃ o, L[i]? = some o := ⟨_, List.getElem?_eq_getElem (by omega)⟩
    obtain ⟨ad, ha, c0, c1, c2, c3, c4, c5⟩ := (h.keep e3).get hoi
    obtain ⟨st1, st2⟩ := nums_step hoi hn
    rw [ha, Int.toNat_natCast]
    refine Nn.of (Ld.mk c0 (Ld.mk c1 (Ld.mk c2 (Ld.mk c3 (Ld.mk c4 (Ld.mk c5 ?_))))))
    refine (Hn.start w3).nw fun w4 H => ?_
    simp only [List.nil_append] at H
    iterate 6 (refine H.st 0 rfl (by simp) fun _ H => ?_; simp only [List.nil_append, List.cons_append, List.set_cons_zero, List.set_cons_succ, Nat.zero_add] at H)
    simp only [add_lit, Nat.zero_add]
    iterate 6 refine H.ld 0 rfl rfl ?_
    have E4 := e3.tr H.ext
    have ho4 : IO w _ r l := ⟨ho.1.keep H.ext fun _ _ e => e, ho.2⟩
    refine (c_num o _).mono ?_ ?_
    · rintro x w5 ⟨hx, e5⟩
      refine IO.snoc (w0 := w) ⟨ho4.1.keep e5 fun _ _ e => e, ho4.2⟩ (E4.tr e5) (by omega) fun r' w' ho' e' => ?_
      exact ⟨L.length - (i + 1), by omega, i + 1, l ++ [x], by rw [i64_id (by omega)]; rfl, by omega, by simp [hll], rfl, ho', e', st1 x hx⟩
    · rintro v w5 ⟨e, hx, rfl, e5⟩
      exact ⟨e, st2 e hx, rfl, E4.tr e5⟩
  · have : i = L.length := by omega
    subst this
    rw [List.drop_length] at hn
    simp only [nums, List.append_nil] at hn
    exact ⟨l, hn, ho, hll, e3⟩
end
end Ste
end Go.Proofs.YtjbeembbnkmpeaaDoor
