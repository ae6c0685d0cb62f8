/- Sums of products in fixed point, of the program and of its reference. Condition: the list's cells lie in the world. -/
import Derived.Test.YtpkadliieplblaaDoorHp
import Derived.Test.YtpkadliieplblaaDoorFnFix
namespace Go.Proofs.YtpkadliieplblaaDoor
namespace Fix
open Sh
set_option linter.unusedVariables false
set_option linter.unusedSimpArgs false

/-- Within the bounds of fixed point. -/
def inW (n : Int) : Bool := decide (-1073741824 ≤ n ∧ n ≤ 1073741824)
theorem inW_spec {n : Int} : inW n = true ↔ -1073741824 ≤ n ∧ n ≤ 1073741824 := by simp [inW]
theorem inW_no {n : Int} : inW n = false ↔ ¬ (-1073741824 ≤ n ∧ n ≤ 1073741824) := by
  unfold inW
  exact decide_eq_false_iff_not
/-- Rounded to nearest. -/
def near (n : Int) : Int := (n + 5000) / 10000
/-- The sum of the first k products. -/
def psum (l : List Int) : Nat → Int
  | 0 => 0
  | k + 1 => psum l k + l.getD (2 * k) 0 * l.getD (2 * k + 1) 0
def allW (l : List Int) : Prop := ∀ i, i < l.length → inW (l.getD i 0) = true
def dotP (l : List Int) : Option Int := if (l.all inW) = true ∧ inW (near (psum l (l.length / 2))) = true then some (near (psum l (l.length / 2))) else none
/-- What Dot answers. -/
def dotF (l : List Int) : Int × Int := if l.length % 2 ≠ 0 ∨ 8 < l.length then (0, 1) else match dotP l with
  | some n => (n, 0)
  | none => (0, 2)
theorem all_iff (l : List Int) : (l.all inW) = true ↔ allW l := by
  rw [List.all_eq_true]
  constructor
  · intro h i hi
    rw [List.getD_eq_getElem?_getD, List.getElem?_eq_getElem hi]
    exact h _ (List.getElem_mem hi)
  · intro h x hx
    obtain ⟨i, hi, rfl⟩ := List.mem_iff_getElem.1 hx
    have := h i hi
    rw [List.getD_eq_getElem?_getD, List.getElem?_eq_getElem hi] at this
    exact this
theorem mul_bd {a b : Int} (ha : -1073741824 ≤ a ∧ a ≤ 1073741824) (hb : -1073741824 ≤ b ∧ b ≤ 1073741824) : -1152921504606846976 ≤ a * b ∧ a * b ≤ 1152921504606846976 := by
  have h : (a * b).natAbs = a.natAbs * b.natAbs := Int.natAbs_mul a b
  have h2 : a.natAbs * b.natAbs ≤ 1073741824 * 1073741824 := Nat.mul_le_mul (by omega) (by omega)
  omega
theorem psum_bd {l : List Int} : ∀ (k : Nat), 2 * k ≤ l.length → (∀ i, i < 2 * k → inW (l.getD i 0) = true) → -(1152921504606846976 * (k : Int)) ≤ psum l k ∧ psum l k ≤ 1152921504606846976 * (k : Int)
  | 0, _, _ => by simp [psum]
  | k + 1, hk, h => by
    have ih := psum_bd k (by omega) fun i hi => h i (by omega)
    have h1 := inW_spec.1 (h (2 * k) (by omega))
    have h2 := inW_spec.1 (h (2 * k + 1) (by omega))
    have h3 := mul_bd h1 h2
    simp only [psum]
    generalize l.getD (2 * k) 0 * l.getD (2 * k + 1) 0 = p at h3 ⊢
    omega
/-- The numbers of a slice. -/
def IRow (w : World) (s : Slc) (l : List Int) : Prop := s.len = l.length ∧ ∀ i, i < l.length → ∃ a, s.p = some a ∧ w.cell? (a.add i) = some (.int .i64 (l.getD i 0))
theorem IRow.keep {w w' : World} {s : Slc} {l : List Int} (h : IRow w s l) (he : Ext (fun _ => False) w w') : IRow w' s l :=
  ⟨h.1, fun i hi => by obtain ⟨a, ha, hc⟩ := h.2 i hi; exact ⟨a, ha, he.cell_same hc⟩⟩
theorem IRow.keepF {F : Nat → Prop} {w w' : World} {s : Slc} {l : List Int} (h : IRow w s l) (he : Ext F w w') (hF : ∀ a, s.p = some a → ¬ F a.block) : IRow w' s l :=
  ⟨h.1, fun i hi => by
    obtain ⟨a, ha, hc⟩ := h.2 i hi
    refine ⟨a, ha, ?_⟩
    have hb : (a.add i).block = a.block := by unfold Addr.add; split <;> (try split) <;> rfl
    rw [he.cell (by rw [hb]; rw [← hb]; exact cell_lt' hc) (by rw [hb]; exact hF a ha)]
    exact hc⟩
/-- A row of numbers that has just been written. -/
theorem IRow.of {w : World} {b n : Nat} {cs : Array Value} {t : TypeId} {l : List Int} (hb : Blk w b cs t) (hn : n = l.length) (hc : ∀ i, i < l.length → cs[i]? = some (.int .i64 (l.getD i 0))) : IRow w ⟨some ⟨b, 0, none⟩, n, n⟩ l :=
  ⟨hn, fun i hi => ⟨_, rfl, by rw [add_lit, hb.cell, Nat.zero_add]; exact hc i hi⟩⟩
theorem c_within (n : Int) (w : World) : C14 n w fun r w1 => r = inW n ∧ w1 = w := by
  refine T14 _ _ _ ?_
  unfold S14
  refine Br.dec (fun h => ⟨?_, rfl⟩) fun h => ⟨?_, rfl⟩
  · unfold inW; exact decide_eq_decide.2 (by omega)
  · exact (inW_no.2 (by omega)).symm
/-- The panic of this package. -/
def refused (e : Int) : Value := .iface 128 (.int .i64 e)
theorem c_bounded {s : Slc} {l : List Int} {w : World} (h : IRow w s l) (hl : l.length ≤ 1099511627776) : C94 s w (fun w1 => w1 = w ∧ allW l) fun v w1 => v = refused 2 ∧ w1 = w ∧ ¬ allW l := by
  refine T94 _ _ _ _ ?_
  unfold S94
  have hn := h.1
  refine ⟨fun n st w1 => ∃ i : Nat, st = (i : Int) ∧ i ≤ l.length ∧ n = l.length - i ∧ w1 = w ∧ ∀ j, j < i → inW (l.getD j 0) = true, l.length, ⟨0, rfl, by omega, rfl, rfl, fun j hj => by omega⟩, ?_⟩
  rintro n st w1 ⟨i, rfl, hi, rfl, rfl, hall⟩
  unfold S94L1
  rw [hn]
  refine Br.dec (fun e => ?_) fun e => ⟨rfl, fun j hj => hall j (by omega)⟩
  obtain ⟨a, ha, hc⟩ := h.2 i (by omega)
  rw [ha]
  refine ⟨by omega, by omega, Nn.of ⟨l.getD i 0, by rw [Int.toNat_natCast, Nat.mul_one]; exact hc, (c_within _ _).mono ?_⟩⟩
  rintro r _ ⟨rfl, rfl⟩
  cases hw : inW (l.getD i 0) with
  | true =>
    refine Br_of (fun h => by cases h) fun _ => ⟨l.length - (i + 1), by omega, i + 1, by rw [i64_id (by omega)]; rfl, by omega, rfl, rfl, fun j hj => ?_⟩
    by_cases hji : j = i
    · rw [hji]; exact hw
    · exact hall j (by omega)
  | false => exact Br_of (fun _ => ⟨rfl, rfl, fun h => by have := h i (by omega); rw [hw] at this; cases this⟩) fun h => by cases h
theorem td (n : Int) : 10000 * Int.tdiv n 10000 + Int.tmod n 10000 = n ∧ -10000 < Int.tmod n 10000 ∧ Int.tmod n 10000 < 10000 ∧ (0 ≤ n → 0 ≤ Int.tmod n 10000) ∧ (n ≤ 0 → Int.tmod n 10000 ≤ 0) := by
  rcases Int.le_total 0 n with h | h
  · rw [tdiv_id h, tmod_id h]; omega
  · obtain ⟨m, rfl⟩ : ∃ m, n = -m := ⟨-n, by omega⟩
    rw [Int.neg_tdiv, Int.neg_tmod, tdiv_id (by omega), tmod_id (by omega)]; omega
theorem near_eq {n : Int} (hn : -5000000000000000000 ≤ n ∧ n ≤ 5000000000000000000) : (if Int.tmod n 10000 < 0 then (if Int.tmod n 10000 + 10000 ≥ 10000 - (Int.tmod n 10000 + 10000) then Int.tdiv n 10000 - 1 + 1 else Int.tdiv n 10000 - 1) else if Int.tmod n 10000 ≥ 10000 - Int.tmod n 10000 then Int.tdiv n 10000 + 1 else Int.tdiv n 10000) = near n := by
  unfold near
  have := td n
  split
  · split <;> omega
  · split <;> omega
theorem near_bd {n : Int} (hn : -5000000000000000000 ≤ n ∧ n ≤ 5000000000000000000) : -500000000000001 ≤ near n ∧ near n ≤ 500000000000001 := by unfold near; omega
theorem dotP_yes {l : List Int} (ha : allW l) (hn : inW (near (psum l (l.length / 2))) = true) : dotP l = some (near (psum l (l.length / 2))) := if_pos ⟨(all_iff l).2 ha, hn⟩
theorem dotP_no {l : List Int} (h : ¬ allW l ∨ inW (near (psum l (l.length / 2))) = false) : dotP l = none := if_neg fun h2 => by
  rcases h with h | h
  · exact h ((all_iff l).1 h2.1)
  · rw [h2.2] at h; cases h
section
variable {w w0 : World} {s : Slc} {l : List Int}
end
end Fix
end Go.Proofs.YtpkadliieplblaaDoor
