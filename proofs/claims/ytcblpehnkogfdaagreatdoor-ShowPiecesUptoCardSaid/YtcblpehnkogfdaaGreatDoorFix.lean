/- Sums of products in fixed point, of the program and of its reference. Condition: the list's cells lie in the world. -/
import Derived.Test.YtcblpehnkogfdaaGreatDoorHp
import Derived.Test.YtcblpehnkogfdaaGreatDoorFnFix
namespace Go.Proofs.YtcblpehnkogfdaaGreatDoor
namespace Fix
open Sh
set_option linter.unusedVariables false
set_option linter.unusedSimpArgs false

/-- Within the bounds of fixed point. -/
def inW (n : Int) : Bool := decide (-1073741824 ≤ n ∧ n ≤ 1073741824)
theorem inW_spec {n : Int} : inW n = true ↔ -1073741824 ≤ n ∧ n ≤ 1073741824 := by simp [inW]
theorem inW_no {n : Int} : inW n = false ↔ ¬ (-1073741824 ≤ n ∧ n ≤ 1073741824) := by
  unfold inW
  exact decide_eq_false_iff_not
/-- Rounded to nearest. -/
def near (n : Int) : Int := (n + 5000) / 10000
/-- The sum of the first k products. -/
def psum (l : List Int) : Nat → Int
  | 0 => 0
  | k + 1 => psum l k + l.getD (2 * k) 0 * l.getD (2 * k + 1) 0
def allW (l : List Int) : Prop := ∀ i, i < l.length → inW (l.getD i 0) = true
def dotP (l : List Int) : Option Int := if (l.all inW) = true ∧ inW (near (psum l (l.length / 2))) = true then some (near (psum l (l.length / 2))) else none
/-- What Dot answers. -/
def dotF (l : List Int) : Int × Int := if l.length % 2 ≠ 0 ∨ 8 < l.length then (0, 1) else match dotP l with
  | some n => (n, 0)
  | none => (0, 2)
theorem all_iff (l : List Int) : (l.all inW) = true ↔ allW l := by
  rw [List.all_eq_true]
  constructor
  · intro h i hi
    rw [List.getD_eq_getElem?_getD, List.getElem?_eq_getElem hi]
    exact h _ (List.getElem_mem hi)
  · intro h x hx
    obtain ⟨i, hi, rfl⟩ := List.mem_iff_getElem.1 hx
    have := h i hi
    rw [List.getD_eq_getElem?_getD, List.getElem?_eq_getElem hi] at this
    exact this
theorem mul_bd {a b : Int} (ha : -1073741824 ≤ a ∧ a ≤ 1073741824) (hb : -1073741824 ≤ b ∧ b ≤ 1073741824) : -1152921504606846976 ≤ a * b ∧ a * b ≤ 1152921504606846976 := by
  have h : (a * b).natAbs = a.natAbs * b.natAbs := Int.natAbs_mul a b
  have h2 : a.natAbs * b.natAbs ≤ 1073741824 * 1073741824 := Nat.mul_le_mul (by omega) (by omega)
  omega
theorem psum_bd {l : List Int} : ∀ (k : Nat), 2 * k ≤ l.length → (∀ i, i < 2 * k → inW (l.getD i 0) = true) → -(1152921504606846976 * (k : Int)) ≤ psum l k ∧ psum l k ≤ 1152921504606846976 * (k : Int)
  | 0, _, _ => by simp [psum]
  | k + 1, hk, h => by
    have ih := psum_bd k (by omega) fun i hi => h i (by omega)
    have h1 := inW_spec.1 (h (2 * k) (by omega))
    have h2 := inW_spec.1 (h (2 * k + 1) (by omega))
    have h3 := mul_bd h1 h2
    simp only [psum]
    generalize l.getD (2 * k) 0 * l.getD (2 * k + 1) 0 = p at h3 ⊢
    omega
/-- The numbers of a slice. -/
def IRow (w : World) (s : Slc) (l : List Int) : Prop := s.len = l.length ∧ ∀ i, i < l.length → ∃ a, s.p = some a ∧ w.cell? (a.add i) = some (.int .i64 (l.getD i 0))
theorem IRow.keep {w w' : World} {s : Slc} {l : List Int} (h : IRow w s l) (he : Ext (fun _ => False) w w') : IRow w' s l :=
  ⟨h.1, fun i hi => by obtain ⟨a, ha, hc⟩ := h.2 i hi; exact ⟨a, ha, he.cell_same hc⟩⟩
theorem IRow.keepF {F : Nat → Prop} {w w' : World} {s : Slc} {l : List Int} (h : IRow w s l) (he : Ext F w w') (hF : ∀ a, s.p = some a → ¬ F a.block) : IRow w' s l :=
  ⟨h.1, fun i hi => by
    obtain ⟨a, ha, hc⟩ := h.2 i hi
    refine ⟨a, ha, ?_⟩
    have hb : (a.add i).block = a.block := by unfold Addr.add; split <;> (try split) <;> rfl
    rw [he.cell (by rw [hb]; rw [← hb]; exact cell_lt' hc) (by rw [hb]; exact hF a ha)]
    exact hc⟩
/-- A row of numbers that has just been written. -/
theorem IRow.of {w : World} {b n : Nat} {cs : Array Value} {t : TypeId} {l : List Int} (hb : Blk w b cs t) (hn : n = l.length) (hc : ∀ i, i < l.length → cs[i]? = some (.int .i64 (l.getD i 0))) : IRow w ⟨some ⟨b, 0, none⟩, n, n⟩ l :=
  ⟨hn, fun i hi => ⟨_, rfl, by rw [add_lit, hb.cell, Nat.zero_add]; exact hc i hi⟩⟩
theorem c_within (n : Int) (w : World) : C126 n w fun r w1 => r = inW n ∧ w1 = w := by
  refine T126 _ _ _ ?_
  unfold S126
  refine Br.dec (fun h => ⟨?_, rfl⟩) fun h => ⟨?_, rfl⟩
  · unfold inW; exact decide_eq_decide.2 (by omega)
  · exact (inW_no.2 (by omega)).symm
theorem r_within (n : Int) (w : World) : C109 n w fun r w1 => r = inW n ∧ w1 = w := by
  refine T109 _ _ _ ?_
  unfold S109
  refine Br.dec (fun h => ⟨?_, rfl⟩) fun h => ⟨?_, rfl⟩
  · unfold inW; exact decide_eq_decide.2 (by omega)
  · exact (inW_no.2 (by omega)).symm
/-- The panic of this package. -/
def refused (e : Int) : Value := .iface 170 (.int .i64 e)
theorem c_bounded {s : Slc} {l : List Int} {w : World} (h : IRow w s l) (hl : l.length ≤ 1099511627776) : C102 s w (fun w1 => w1 = w ∧ allW l) fun v w1 => v = refused 2 ∧ w1 = w ∧ ¬ allW l := by
  refine T102 _ _ _ _ ?_
  unfold S102
  have hn := h.1
  refine ⟨fun n st w1 => ∃ i : Nat, st = (i : Int) ∧ i ≤ l.length ∧ n = l.length - i ∧ w1 = w ∧ ∀ j, j < i → inW (l.getD j 0) = true, l.length, ⟨0, rfl, by omega, rfl, rfl, fun j hj => by omega⟩, ?_⟩
  rintro n st w1 ⟨i, rfl, hi, rfl, rfl, hall⟩
  unfold S102L1
  rw [hn]
  refine Br.dec (fun e => ?_) fun e => ⟨rfl, fun j hj => hall j (by omega)⟩
  obtain ⟨a, ha, hc⟩ := h.2 i (by omega)
  rw [ha]
  refine ⟨by omega, by omega, Nn.of ⟨l.getD i 0, by rw [Int.toNat_natCast, Nat.mul_one]; exact hc, (c_within _ _).mono ?_⟩⟩
  rintro r _ ⟨rfl, rfl⟩
  cases hw : inW (l.getD i 0) with
  | true =>
    refine Br_of (fun h => by cases h) fun _ => ⟨l.length - (i + 1), by omega, i + 1, by rw [i64_id (by omega)]; rfl, by omega, rfl, rfl, fun j hj => ?_⟩
    by_cases hji : j = i
    · rw [hji]; exact hw
    · exact hall j (by omega)
  | false => exact Br_of (fun _ => ⟨rfl, rfl, fun h => by have := h i (by omega); rw [hw] at this; cases this⟩) fun h => by cases h
theorem c_answer (n : Int) (w : World) : C103 n w (fun r w1 => r = n ∧ inW n = true ∧ Ext (fun _ => False) w w1) fun v w1 => v = refused 2 ∧ inW n = false ∧ Ext (fun _ => False) w w1 := by
  refine T103 _ _ _ _ ?_
  unfold S103
  refine (Hx.start w (fun _ => False)).nw fun w2 H => ?_
  refine (c_bounded (l := [n]) (IRow.of (H.get 0 rfl) rfl fun i hi => ?_) (by simp)).mono (fun w3 h => ?_) fun v w3 h => ?_
  · have : i = 0 := by simp at hi; omega
    subst this; rfl
  · obtain ⟨rfl, ha⟩ := h
    exact ⟨rfl, ha 0 (by simp), H.ext⟩
  · obtain ⟨rfl, rfl, ha⟩ := h
    refine ⟨rfl, ?_, H.ext⟩
    cases hw : inW n with
    | false => rfl
    | true =>
      refine absurd (fun i hi => ?_) ha
      have : i = 0 := by simp at hi; omega
      subst this
      exact hw
theorem td (n : Int) : 10000 * Int.tdiv n 10000 + Int.tmod n 10000 = n ∧ -10000 < Int.tmod n 10000 ∧ Int.tmod n 10000 < 10000 ∧ (0 ≤ n → 0 ≤ Int.tmod n 10000) ∧ (n ≤ 0 → Int.tmod n 10000 ≤ 0) := by
  rcases Int.le_total 0 n with h | h
  · rw [tdiv_id h, tmod_id h]; omega
  · obtain ⟨m, rfl⟩ : ∃ m, n = -m := ⟨-n, by omega⟩
    rw [Int.neg_tdiv, Int.neg_tmod, tdiv_id (by omega), tmod_id (by omega)]; omega
theorem near_eq {n : Int} (hn : -5000000000000000000 ≤ n ∧ n ≤ 5000000000000000000) : (if Int.tmod n 10000 < 0 then (if Int.tmod n 10000 + 10000 ≥ 10000 - (Int.tmod n 10000 + 10000) then Int.tdiv n 10000 - 1 + 1 else Int.tdiv n 10000 - 1) else if Int.tmod n 10000 ≥ 10000 - Int.tmod n 10000 then Int.tdiv n 10000 + 1 else Int.tdiv n 10000) = near n := by
  unfold near
  have := td n
  split
  · split <;> omega
  · split <;> omega
theorem c_near {n : Int} (hn : -5000000000000000000 ≤ n ∧ n ≤ 5000000000000000000) (w : World) : C104 n 10000 w fun r w1 => r = near n ∧ Ext (fun _ => False) w w1 := by
  refine T104 _ _ _ _ ?_
  unfold S104
  have he : Ext (fun _ => False) w w.drew := (Ext.refl _ w).drew
  have e := near_eq hn
  have := td n
  refine ⟨by omega, by omega, Br.dec (fun h => ?_) fun h => ?_⟩
  · rw [if_pos h] at e
    rw [i64_id (n := Int.tmod n 10000 + 10000) (by omega), i64_id (n := 10000 - (Int.tmod n 10000 + 10000)) (by omega), i64_id (n := Int.tdiv n 10000) (by omega), i64_id (n := Int.tdiv n 10000 - 1) (by omega), i64_id (n := Int.tdiv n 10000 - 1 + 1) (by omega)]
    refine Lt.of (Br.dec (fun h2 => ⟨?_, he⟩) fun h2 => ⟨?_, he⟩)
    · rw [if_pos h2] at e; exact e
    · rw [if_neg h2] at e; exact e
  · rw [if_neg h] at e
    rw [i64_id (n := 10000 - Int.tmod n 10000) (by omega), i64_id (n := Int.tdiv n 10000) (by omega), i64_id (n := Int.tdiv n 10000 + 1) (by omega)]
    refine Br.dec (fun h2 => ⟨?_, he⟩) fun h2 => ⟨?_, he⟩
    · rw [if_pos h2] at e; exact e
    · rw [if_neg h2] at e; exact e
theorem r_near {n : Int} (hn : -5000000000000000000 ≤ n ∧ n ≤ 5000000000000000000) (w : World) : C128 n 10000 w fun r w1 => r = near n ∧ Ext (fun _ => False) w w1 := by
  refine T128 _ _ _ _ ?_
  unfold S128
  have he : Ext (fun _ => False) w w := (Ext.refl _ w)
  have e := near_eq hn
  have := td n
  refine ⟨by omega, by omega, Br.dec (fun h => ?_) fun h => ?_⟩
  · rw [if_pos h] at e
    rw [i64_id (n := Int.tmod n 10000 + 10000) (by omega), i64_id (n := 10000 - (Int.tmod n 10000 + 10000)) (by omega), i64_id (n := Int.tdiv n 10000) (by omega), i64_id (n := Int.tdiv n 10000 - 1) (by omega), i64_id (n := Int.tdiv n 10000 - 1 + 1) (by omega)]
    refine Lt.of (Br.dec (fun h2 => ⟨?_, he⟩) fun h2 => ⟨?_, he⟩)
    · rw [if_pos h2] at e; exact e
    · rw [if_neg h2] at e; exact e
  · rw [if_neg h] at e
    rw [i64_id (n := 10000 - Int.tmod n 10000) (by omega), i64_id (n := Int.tdiv n 10000) (by omega), i64_id (n := Int.tdiv n 10000 + 1) (by omega)]
    refine Br.dec (fun h2 => ⟨?_, he⟩) fun h2 => ⟨?_, he⟩
    · rw [if_pos h2] at e; exact e
    · rw [if_neg h2] at e; exact e
theorem near_bd {n : Int} (hn : -5000000000000000000 ≤ n ∧ n ≤ 5000000000000000000) : -500000000000001 ≤ near n ∧ near n ≤ 500000000000001 := by unfold near; omega
theorem dotP_yes {l : List Int} (ha : allW l) (hn : inW (near (psum l (l.length / 2))) = true) : dotP l = some (near (psum l (l.length / 2))) := if_pos ⟨(all_iff l).2 ha, hn⟩
theorem dotP_no {l : List Int} (h : ¬ allW l ∨ inW (near (psum l (l.length / 2))) = false) : dotP l = none := if_neg fun h2 => by
  rcases h with h | h
  · exact h ((all_iff l).1 h2.1)
  · rw [h2.2] at h; cases h
section
variable {w w0 : World} {s : Slc} {l : List Int}
/-- Dot of the program. -/
theorem c_dot (h : IRow w s l) (hl : l.length ≤ 1099511627776) : C147 s w fun r e w1 => (r, e) = dotF l ∧ Ext (fun _ => False) w w1 := by
  refine T147 _ _ _ ?_
  unfold S147
  have hn := h.1
  have hp : ∀ a, s.p = some a → l = [] ∨ a.block < w.heap.size := fun a ha => by
    rcases Nat.eq_zero_or_pos l.length with h0 | h0
    · exact .inl (List.eq_nil_of_length_eq_zero h0)
    · obtain ⟨b, hb, hc⟩ := h.2 0 h0
      rw [ha] at hb; cases hb
      have := cell_lt' hc
      refine .inr ?_
      have hb : (a.add 0).block = a.block := by unfold Addr.add; simp
      rw [hb] at this; exact this
  refine (Hx.start w (fun _ => False)).nw fun w2 H => ?_
  have hs := H.size
  have hlt := (H.get 0 rfl).lt
  refine H.nw fun w3 H => ?_
  -- the deferred call, with a panic and without
  have caught : ∀ (cs1 cs2 : Int) (w4 : World), Hx w (fun _ => False) w4 [(w.heap.size, #[.int .i64 cs1], 2), (w2.heap.size, #[.int .i64 cs2], 43)] → (dotF l = (0, 2)) →
      S147P w w2 (fun r e w1 => (r, e) = dotF l ∧ Ext (fun _ => False) w w1) (refused 2) w4 := fun cs1 cs2 w4 H hd => by
    unfold S147P
    refine T101_T170 _ _ 2 _ _ ?_
    unfold S101_T170
    refine Nn.of (H.st 0 rfl (by simp) (.inr (Nat.le_refl _)) fun w5 H => Nn.of (H.st 1 rfl (by simp) (.inr hs) fun w6 H => H.ld 0 rfl rfl (H.ld 1 rfl rfl ⟨hd.symm, H.ext⟩)))
  have done : ∀ (r e : Int) (w4 : World), Hx w (fun _ => False) w4 [(w.heap.size, #[.int .i64 r], 2), (w2.heap.size, #[.int .i64 e], 43)] → dotF l = (r, e) →
      CD101 (some (⟨w.heap.size, 0, none⟩ : Addr)) (some (⟨w2.heap.size, 0, none⟩ : Addr)) none w4 fun vw15 =>
        Ld vw15 (⟨w.heap.size, 0, none⟩ : Addr) (Value.int .i64) fun (x16 : Int) =>
        Ld vw15 (⟨w2.heap.size, 0, none⟩ : Addr) (Value.int .i64) fun (x17 : Int) =>
        (x16, x17) = dotF l ∧ Ext (fun _ => False) w vw15 := fun r e w4 H hd => by
    refine T101_nil _ _ _ _ ?_
    unfold S101_nil
    exact H.ld 0 rfl rfl (H.ld 1 rfl rfl ⟨hd.symm, H.ext⟩)
  rw [hn]
  have hodd : Int.tmod ((l.length : Nat) : Int) 2 = ((l.length % 2 : Nat) : Int) := by rw [tmod_id (by omega)]; rfl
  rw [hodd]
  refine Br.ne (fun e => ?_) fun e => Br.dec (fun e2 => ?_) fun e2 => ?_
  · exact H.st 0 rfl (by simp) (.inr (Nat.le_refl _)) fun w4 H => H.st 1 rfl (by simp) (.inr hs) fun w5 H => done 0 1 _ H (if_pos (.inl (by omega)))
  · exact H.st 0 rfl (by simp) (.inr (Nat.le_refl _)) fun w4 H => H.st 1 rfl (by simp) (.inr hs) fun w5 H => done 0 1 _ H (if_pos (.inr (by omega)))
  have hdF : dotF l = match dotP l with
    | some n => (n, 0)
    | none => (0, 2) := if_neg (by omega)
  refine (c_bounded (h.keep H.ext) hl).mono (fun w4 h4 => ?_) fun v w4 h4 => ?_
  case refine_2 =>
    obtain ⟨rfl, rfl, ha⟩ := h4
    exact caught _ _ _ H (by rw [hdF, dotP_no (.inl ha)])
  obtain ⟨rfl, ha⟩ := h4
  refine ⟨fun n st w5 => ∃ k : Nat, st = ((2 * k : Nat) : Int) ∧ 2 * k ≤ l.length ∧ n = l.length - 2 * k ∧ Hx w (fun _ => False) w5 [(w.heap.size, #[.int .i64 (psum l k)], 2), (w2.heap.size, #[.int .i64 0], 43)], l.length, ⟨0, rfl, by omega, rfl, H⟩, ?_⟩
  rintro n st w5 ⟨k, rfl, hk, rfl, H⟩
  unfold S147L1
  rw [hn]
  have hbd := psum_bd k hk fun i hi => ha i (by omega)
  refine Br.dec (fun e3 => ?_) fun e3 => ?_
  · have HD := H.drew
    have hrow := h.keep HD.ext
    obtain ⟨a, haa, hc1⟩ := hrow.2 (2 * k) (by omega)
    obtain ⟨b, hbb, hc2⟩ := hrow.2 (2 * k + 1) (by omega)
    rw [haa] at hbb
    cases hbb
    rw [haa, i64_id (n := ((2 * k : Nat) : Int) + 1) (by omega)]
    have h1 := inW_spec.1 (ha (2 * k) (by omega))
    have h2 := inW_spec.1 (ha (2 * k + 1) (by omega))
    have h3 := mul_bd h1 h2
    have e1 : (((2 * k : Nat) : Int) + 1).toNat = 2 * k + 1 := by omega
    refine HD.ld 0 rfl rfl ⟨by omega, by omega, Nn.of ⟨l.getD (2 * k) 0, by rw [Int.toNat_natCast, Nat.mul_one]; exact hc1, by omega, by omega, Nn.of ⟨l.getD (2 * k + 1) 0, by rw [e1, Nat.mul_one]; exact hc2, ?_⟩⟩⟩
    dsimp only
    rw [i64_id (n := l.getD (2 * k) 0 * l.getD (2 * k + 1) 0) (by omega), i64_id (n := psum l k + l.getD (2 * k) 0 * l.getD (2 * k + 1) 0) (by omega)]
    exact HD.st 0 rfl (by simp) (.inr (Nat.le_refl _)) fun w6 H => ⟨l.length - 2 * (k + 1), by omega, k + 1, by rw [i64_id (by omega)]; omega, by omega, rfl, H⟩
  · have hk2 : l.length / 2 = k := by omega
    have hbd' : -5000000000000000000 ≤ psum l k ∧ psum l k ≤ 5000000000000000000 := by omega
    refine H.ld 0 rfl rfl ((c_near hbd' _).mono ?_)
    rintro r w6 ⟨rfl, he⟩
    have H := H.keep he
    refine (c_answer _ _).mono (fun r w7 h7 => ?_) fun v w7 h7 => ?_
    · obtain ⟨rfl, hw, he⟩ := h7
      have H := H.keep he
      exact H.st 0 rfl (by simp) (.inr (Nat.le_refl _)) fun w8 H => H.st 1 rfl (by simp) (.inr hs) fun w9 H => done _ 0 _ H (by rw [hdF, dotP_yes ha (by rw [hk2]; exact hw), hk2])
    · obtain ⟨rfl, hw, he⟩ := h7
      exact caught _ _ _ (H.keep he) (by rw [hdF, dotP_no (.inr (by rw [hk2]; exact hw))])
theorem r_told (n : Int) (w : World) : C110 n w fun r e w1 => (r, e) = (if inW n = true then (n, 0) else (0, 2)) ∧ w1 = w := by
  refine T110 _ _ _ ?_
  unfold S110
  refine (r_within _ _).mono ?_
  rintro r _ ⟨rfl, rfl⟩
  cases hw : inW n with
  | true => exact Br_of (fun h => by cases h) fun _ => ⟨rfl, rfl⟩
  | false => exact Br_of (fun _ => ⟨rfl, rfl⟩) fun h => by cases h
/-- Dot of the reference. -/
theorem r_dot (h : IRow w s l) (hl : l.length ≤ 1099511627776) : C117 s w fun r e w1 => (r, e) = dotF l ∧ Ext (fun _ => False) w w1 := by
  refine T117 _ _ _ ?_
  unfold S117
  have hn := h.1
  rw [hn]
  have hodd : Int.tmod ((l.length : Nat) : Int) 2 = ((l.length % 2 : Nat) : Int) := by rw [tmod_id (by omega)]; rfl
  rw [hodd]
  refine Br.eq (fun e => ⟨(if_pos (.inl (by omega))).symm, Ext.refl _ _⟩) fun e => Br.dec (fun e2 => ⟨(if_pos (.inr (by omega))).symm, Ext.refl _ _⟩) fun e2 => ?_
  have hdF : dotF l = match dotP l with
    | some n => (n, 0)
    | none => (0, 2) := if_neg (by omega)
  refine ⟨fun n st w5 => ∃ k : Nat, st = (psum l k, ((2 * k : Nat) : Int)) ∧ 2 * k ≤ l.length ∧ n = l.length - 2 * k ∧ Ext (fun _ => False) w w5 ∧ ∀ i, i < 2 * k → inW (l.getD i 0) = true, l.length, ⟨0, rfl, by omega, rfl, Ext.refl _ _, fun i hi => by omega⟩, ?_⟩
  rintro n st w5 ⟨k, rfl, hk, rfl, he, hall⟩
  unfold S117L1
  dsimp only
  rw [hn, i64_id (n := ((2 * k : Nat) : Int) + 1) (by omega)]
  have hbd := psum_bd k hk hall
  refine Br.dec (fun e3 => ?_) fun e3 => ?_
  · have hrow := h.keep he
    have hrowD := h.keep he.drew
    obtain ⟨a, haa, hc1⟩ := hrow.2 (2 * k) (by omega)
    obtain ⟨b, hbb, hc2⟩ := hrow.2 (2 * k + 1) (by omega)
    rw [haa] at hbb
    cases hbb
    have e1 : (((2 * k : Nat) : Int) + 1).toNat = 2 * k + 1 := by omega
    rw [haa]
    have hno : ∀ i, i < l.length → inW (l.getD i 0) = false → ((0, 2) : Int × Int) = dotF l := fun i hi hw => by
      rw [hdF, dotP_no (.inl fun ha => by have := ha i hi; rw [hw] at this; cases this)]
    refine ⟨by omega, by omega, Nn.of ⟨l.getD (2 * k) 0, by rw [Int.toNat_natCast, Nat.mul_one]; exact hc1, (r_within _ _).mono ?_⟩⟩
    rintro r _ ⟨rfl, rfl⟩
    refine Br_of (fun hw => ⟨hno (2 * k) (by omega) (by simpa using hw), he⟩) fun hw1 => ⟨by omega, by omega, Nn.of ⟨l.getD (2 * k + 1) 0, by rw [e1, Nat.mul_one]; exact hc2, (r_within _ _).mono ?_⟩⟩
    rintro r w6 ⟨rfl, rfl⟩
    refine Br_of (fun hw => ⟨hno (2 * k + 1) (by omega) (by simpa using hw), he⟩) fun hw2 => ?_
    have hw1 : inW (l.getD (2 * k) 0) = true := by simpa using hw1
    have hw2 : inW (l.getD (2 * k + 1) 0) = true := by simpa using hw2
    have h3 := mul_bd (inW_spec.1 hw1) (inW_spec.1 hw2)
    refine ⟨by omega, by omega, Nn.of ⟨l.getD (2 * k) 0, by rw [Int.toNat_natCast, Nat.mul_one]; exact (Ext.refl (fun _ => False) _).drew.cell_same hc1, by omega, by omega, Nn.of ⟨l.getD (2 * k + 1) 0, by rw [e1, Nat.mul_one]; exact (Ext.refl (fun _ => False) _).drew.cell_same hc2, ?_⟩⟩⟩
    dsimp only
    rw [i64_id (n := l.getD (2 * k) 0 * l.getD (2 * k + 1) 0) (by omega), i64_id (n := psum l k + l.getD (2 * k) 0 * l.getD (2 * k + 1) 0) (by omega)]
    refine ⟨l.length - 2 * (k + 1), by omega, k + 1, Prod.ext rfl (by dsimp only; rw [i64_id (by omega)]; omega), by omega, rfl, he.drew, fun i hi => ?_⟩
    by_cases h1 : i = 2 * k
    · rw [h1]; exact hw1
    · by_cases h2 : i = 2 * k + 1
      · rw [h2]; exact hw2
      · exact hall i (by omega)
  · have hk2 : l.length / 2 = k := by omega
    have ha : allW l := fun i hi => hall i (by omega)
    have hbd' : -5000000000000000000 ≤ psum l k ∧ psum l k ≤ 5000000000000000000 := by omega
    refine (r_near hbd' _).mono ?_
    rintro r w6 ⟨rfl, he6⟩
    refine (r_told _ _).mono ?_
    rintro r e w7 ⟨h7, rfl⟩
    refine ⟨?_, he.tr he6⟩
    rw [h7, hdF]
    by_cases hw : inW (near (psum l k)) = true
    · rw [if_pos hw, dotP_yes ha (by rw [hk2]; exact hw), hk2]
    · rw [if_neg hw, dotP_no (.inr (by rw [hk2]; simpa using hw))]
end
end Fix
end Go.Proofs.YtcblpehnkogfdaaGreatDoor
