/- Objects: rows of them, numbers among them, copies of an array of numbers. Conditions: sizes. -/
import Derived.Test.YtcblpehnkogfdaaGreatDoorEl
import Derived.Test.YtcblpehnkogfdaaGreatDoorMatR
import Derived.Test.YtcblpehnkogfdaaGreatDoorRd
import Derived.Test.YtcblpehnkogfdaaGreatDoorFnObj
namespace Go.Proofs.YtcblpehnkogfdaaGreatDoor
namespace Mat
open Sh Fix
set_option linter.unusedVariables false
set_option linter.unusedSimpArgs false
set_option maxRecDepth 4000
set_option maxHeartbeats 1000000

abbrev Ob := Int × Int × Int × ByteArray × Slc × Slc
abbrev nilS : Slc := ⟨none, 0, 0⟩
def obrow (o : Ob) : List Value := [.int .i64 o.1, .int .i64 o.2.1, .int .i64 o.2.2.1, .string o.2.2.2.1, Slc.v o.2.2.2.2.1, Slc.v o.2.2.2.2.2]
def ob0 : Ob := (0, 0, 0, ⟨#[]⟩, nilS, nilS)
theorem elOb : El Tryz.prog 46 61 6 88 (.agg (obrow ob0).toArray) := ⟨by kernel_rfl, by kernel_rfl, by kernel_rfl, by kernel_rfl, rfl⟩
theorem ob_one (o : Ob) : ∀ v ∈ obrow o, v.oneCell' = true := by
  intro v hv
  simp only [obrow, List.mem_cons, List.not_mem_nil, or_false] at hv
  rcases hv with rfl | rfl | rfl | rfl | rfl | rfl <;> rfl
theorem obs_one (L : List Ob) : ∀ v ∈ L.flatMap obrow, v.oneCell' = true := by
  intro v hv
  obtain ⟨o, _, h⟩ := List.mem_flatMap.1 hv
  exact ob_one o v h
theorem obs_len (L : List Ob) : (L.flatMap obrow).length = L.length * 6 := by
  induction L with
  | nil => rfl
  | cons o L ih => rw [List.flatMap_cons, List.length_append, ih, List.length_cons]; simp [obrow]; omega
theorem obs_get {L : List Ob} {i j : Nat} {o : Ob} (hi : L[i]? = some o) (hj : j < 6) : (L.flatMap obrow)[i * 6 + j]? = (obrow o)[j]? := by
  induction L generalizing i with
  | nil => cases hi
  | cons p L ih =>
    rw [List.flatMap_cons]
    cases i with
    | zero =>
      cases hi
      rw [Nat.zero_mul, Nat.zero_add, List.getElem?_append_left (by simp [obrow]; omega)]
    | succ i =>
      rw [List.getElem?_append_right (by simp [obrow]; omega), ← ih (by simpa using hi)]
      congr 1
      simp only [obrow, List.length_cons, List.length_nil]
      omega
/-- The objects of a slice. -/
def OV (w : World) (s : Slc) (L : List Ob) : Prop := s.len = L.length ∧ VRow w s 6 (L.flatMap obrow)
/-- A whole block as a slice. -/
abbrev rowS (g n : Nat) : Slc := ⟨some ⟨g, 0, none⟩, n, n⟩
theorem OV.of {w : World} {g : Nat} {L : List Ob} {t : TypeId} (h : Blk w g (L.flatMap obrow).toArray t) : OV w (rowS g L.length) L := ⟨rfl, VRow.of h (obs_len L)⟩
theorem OV.keep {w w' : World} {s : Slc} {L : List Ob} (h : OV w s L) (he : Ext (fun _ => False) w w') : OV w' s L := ⟨h.1, h.2.keep he⟩
theorem OV.get {w : World} {s : Slc} {L : List Ob} (h : OV w s L) {i : Nat} {o : Ob} (hi : L[i]? = some o) : ∃ a, s.p = some a ∧ w.cell? (a.add (i * 6)) = some (.int .i64 o.1) ∧ w.cell? ((a.add (i * 6)).add 1) = some (.int .i64 o.2.1) ∧ w.cell? ((a.add (i * 6)).add 2) = some (.int .i64 o.2.2.1) ∧
    w.cell? ((a.add (i * 6)).add 3) = some (.string o.2.2.2.1) ∧ w.cell? ((a.add (i * 6)).add 4) = some (Slc.v o.2.2.2.2.1) ∧ w.cell? ((a.add (i * 6)).add 5) = some (Slc.v o.2.2.2.2.2) := by
  have g : ∀ j v, j < 6 → (obrow o)[j]? = some v → ∃ a, s.p = some a ∧ w.cell? ((a.add (i * 6)).add j) = some v := fun j v hj hv => by
    obtain ⟨a, ha, hc⟩ := h.2.2 (i * 6 + j) v (by rw [obs_get hi hj]; exact hv)
    exact ⟨a, ha, by rw [add_add']; exact hc⟩
  obtain ⟨a, ha, c0⟩ := g 0 _ (by omega) rfl
  obtain ⟨a1, ha1, c1⟩ := g 1 _ (by omega) rfl
  obtain ⟨a2, ha2, c2⟩ := g 2 _ (by omega) rfl
  obtain ⟨a3, ha3, c3⟩ := g 3 _ (by omega) rfl
  obtain ⟨a4, ha4, c4⟩ := g 4 _ (by omega) rfl
  obtain ⟨a5, ha5, c5⟩ := g 5 _ (by omega) rfl
  rw [ha] at ha1 ha2 ha3 ha4 ha5
  cases ha1; cases ha2; cases ha3; cases ha4; cases ha5
  exact ⟨a, ha, by rw [add_add'] at c0; exact c0, c1, c2, c3, c4, c5⟩
/-- A number as an object. -/
def numO (n : Int) : Ob := if Int.tmod n 10000 = 0 then (2, Int.tdiv n 10000, 0, ⟨#[]⟩, nilS, nilS) else (3, n, 0, ⟨#[]⟩, nilS, nilS)
/-- The number of an object. -/
def numV (o : Ob) : Option Int := if o.1 = 2 then (if -107374 ≤ o.2.1 ∧ o.2.1 ≤ 107374 then some (o.2.1 * 10000) else none) else if o.1 = 3 then (if inW o.2.1 = true then some o.2.1 else none) else none
def resN : Option Int → Int × Bool
  | some n => (n, true)
  | none => (0, false)
attribute [local irreducible] Ld St Nw Nn Lt LdS
theorem c_within2 (n a b : Int) (w : World) : C131 n a b w fun r w1 => r = decide (a ≤ n ∧ n ≤ b) ∧ w1 = w := by
  refine T131 _ _ _ _ _ ?_
  unfold S131
  refine Br.dec (fun h => ⟨decide_eq_decide.2 (by omega), rfl⟩) fun h => ⟨(decide_eq_false (by omega)).symm, rfl⟩
theorem c_number (o : Ob) (w : World) : C114 o w fun r b w1 => (r, b) = resN (numV o) ∧ Ext (fun _ => False) w w1 := by
  refine T114 _ _ _ ?_
  unfold S114
  refine (Hn.start w).nw fun w2 H => ?_
  repeat (first | refine H.ld 0 rfl rfl ?_ | refine H.ld 1 rfl rfl ?_ | refine H.ld 2 rfl rfl ?_ | refine H.ld 3 rfl rfl ?_ | refine H.ld 4 rfl rfl ?_ | refine H.ld 5 rfl rfl ?_)
  unfold numV
  refine Br.eq (fun h => (c_within2 _ _ _ _).mono ?_) fun h => Br.eq (fun h2 => (c_within2 _ _ _ _).mono ?_) fun h2 => ?_
  · rintro r _ ⟨rfl, rfl⟩
    rw [if_pos h]
    by_cases hb : -107374 ≤ o.2.1 ∧ o.2.1 ≤ 107374
    · rw [if_pos hb, decide_eq_true hb]
      refine Br_of (fun h => by cases h) fun _ => (c_within2 _ _ _ _).mono ?_
      rintro r _ ⟨rfl, rfl⟩
      rw [i64_id (by omega), decide_eq_true (by omega)]
      exact Br_of (fun h => by cases h) fun _ => ⟨rfl, H.ext⟩
    · rw [if_neg hb, decide_eq_false hb]
      exact Br_of (fun _ => ⟨rfl, H.ext⟩) fun h => by cases h
  · rintro r _ ⟨rfl, rfl⟩
    rw [if_neg h, if_pos h2]
    show Br (!inW o.2.1) _ _
    cases inW o.2.1 with
    | true => exact Br_of (fun h => by cases h) fun _ => ⟨rfl, H.ext⟩
    | false => exact Br_of (fun _ => ⟨rfl, H.ext⟩) fun h => by cases h
  · rw [if_neg h, if_neg h2]
    exact ⟨rfl, H.ext⟩
theorem r_number (o : Ob) (w : World) : C84 o w fun r b w1 => (r, b) = resN (numV o) ∧ Ext (fun _ => False) w w1 := by
  refine T84 _ _ _ ?_
  unfold S84
  refine (Hn.start w).nw fun w2 H => ?_
  refine ⟨fun _ w3 => w3 = w2 ∧ ¬ (o.1 = 3 ∧ inW o.2.1 = true), ?_, ?_⟩
  case refine_2 =>
    repeat (first | refine H.ld 0 rfl rfl ?_ | refine H.ld 1 rfl rfl ?_ | refine H.ld 2 rfl rfl ?_ | refine H.ld 3 rfl rfl ?_ | refine H.ld 4 rfl rfl ?_ | refine H.ld 5 rfl rfl ?_)
    refine Br.eq (fun h => ?_) fun h => ⟨rfl, fun h2 => h h2.1⟩
    repeat (first | refine H.ld 0 rfl rfl ?_ | refine H.ld 1 rfl rfl ?_ | refine H.ld 2 rfl rfl ?_ | refine H.ld 3 rfl rfl ?_ | refine H.ld 4 rfl rfl ?_ | refine H.ld 5 rfl rfl ?_)
    refine Br.dec (fun h2 => ?_) fun h2 => ⟨rfl, fun h3 => by have := inW_spec.1 h3.2; omega⟩
    repeat (first | refine H.ld 0 rfl rfl ?_ | refine H.ld 1 rfl rfl ?_ | refine H.ld 2 rfl rfl ?_ | refine H.ld 3 rfl rfl ?_ | refine H.ld 4 rfl rfl ?_ | refine H.ld 5 rfl rfl ?_)
    refine Br.dec (fun h3 => ?_) fun h3 => ⟨rfl, fun h4 => by have := inW_spec.1 h4.2; omega⟩
    repeat (first | refine H.ld 0 rfl rfl ?_ | refine H.ld 1 rfl rfl ?_ | refine H.ld 2 rfl rfl ?_ | refine H.ld 3 rfl rfl ?_ | refine H.ld 4 rfl rfl ?_ | refine H.ld 5 rfl rfl ?_)
    refine ⟨?_, H.ext⟩
    unfold numV
    rw [if_neg (by omega), if_pos h, if_pos (inW_spec.2 (by omega))]
    rfl
  rintro _ w3 ⟨rfl, hn⟩
  unfold S84J1
  have h3 : o.1 ≠ 2 → numV o = none := fun h => by
    unfold numV
    rw [if_neg h]
    split
    · rename_i h4
      exact if_neg fun h5 => hn ⟨h4, h5⟩
    · rfl
  repeat (first | refine H.ld 0 rfl rfl ?_ | refine H.ld 1 rfl rfl ?_ | refine H.ld 2 rfl rfl ?_ | refine H.ld 3 rfl rfl ?_ | refine H.ld 4 rfl rfl ?_ | refine H.ld 5 rfl rfl ?_)
  refine Br.eq (fun h => ?_) fun h => ⟨by rw [h3 h]; rfl, H.ext⟩
  have hno : ¬ (-107374 ≤ o.2.1 ∧ o.2.1 ≤ 107374) → ((0, false) : Int × Bool) = resN (numV o) := fun hb => by
    unfold numV
    rw [if_pos h, if_neg hb]
    rfl
  repeat (first | refine H.ld 0 rfl rfl ?_ | refine H.ld 1 rfl rfl ?_ | refine H.ld 2 rfl rfl ?_ | refine H.ld 3 rfl rfl ?_ | refine H.ld 4 rfl rfl ?_ | refine H.ld 5 rfl rfl ?_)
  refine Br.dec (fun h2 => ?_) fun h2 => ⟨hno (by omega), H.ext⟩
  repeat (first | refine H.ld 0 rfl rfl ?_ | refine H.ld 1 rfl rfl ?_ | refine H.ld 2 rfl rfl ?_ | refine H.ld 3 rfl rfl ?_ | refine H.ld 4 rfl rfl ?_ | refine H.ld 5 rfl rfl ?_)
  refine Br.dec (fun h3 => ?_) fun h3 => ⟨hno (by omega), H.ext⟩
  repeat (first | refine H.ld 0 rfl rfl ?_ | refine H.ld 1 rfl rfl ?_ | refine H.ld 2 rfl rfl ?_ | refine H.ld 3 rfl rfl ?_ | refine H.ld 4 rfl rfl ?_ | refine H.ld 5 rfl rfl ?_)
  refine ⟨?_, H.ext⟩
  unfold numV
  rw [if_pos h, if_pos (by omega), i64_id (by omega), Int.mul_comm]
  rfl
/-- An object without keys and kids. -/
def leaf (o : Ob) : Prop := o.2.2.2.2.1 = nilS ∧ o.2.2.2.2.2 = nilS
end Mat
end Go.Proofs.YtcblpehnkogfdaaGreatDoor
