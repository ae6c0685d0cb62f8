/- Inflate: the reference's Fixed, lengths, block, All. Conditions: sizes. -/
import Derived.Test.YtapgacggllbhiaaDoorInM
namespace Go.Proofs.YtapgacggllbhiaaDoor
namespace Inf
open Sh Bit
set_option linter.unusedVariables false
set_option linter.unusedSimpArgs false
set_option maxRecDepth 4000
set_option maxHeartbeats 2000000
def fixV (i : Nat) : Int := if 256 ≤ i ∧ i < 280 then 7 else if 144 ≤ i ∧ i < 256 then 9 else 8
theorem fixV_all : (List.range 288).map fixV = fixL := by decide +kernel
theorem fixV_step (i : Nat) : (List.range (i + 1)).map fixV = (List.range i).map fixV ++ [fixV i] := by rw [List.range_succ, List.map_append]; rfl
attribute [local irreducible] Ld St Nw Nn Lt LdS
section
variable {w : World} {o : Slc} {s : ByteArray} {out : List UInt8} {p most : Nat}
theorem app_int {w : World} {o : Slc} {l : List Int} {x : Int} (h : Row w o 3 1 (ints l)) (hl : l.length ≤ 100000) :
    ∃ o1 w1, RunV Tryd.prog (Builtin.append_ #[28, 28] 28 #[Slc.v o, Slc.v ⟨some ⟨w.heap.size, 0, none⟩, 1, 1⟩]) (w.alloc (.cells #[.int .i64 x] 3)) (Slc.v o1) w1 ∧ Row w1 o1 3 1 (ints (l ++ [x])) ∧ Ext o.own w w1 ∧ ∀ j, o1.own j → o.own j ∨ w.heap.size ≤ j := by
  have e1 : Ext (fun _ => False) w (w.alloc (.cells #[.int .i64 x] 3)) := (Ext.refl _ _).alloc _
  have hrl := h.1
  rw [ints_len] at hrl
  obtain ⟨o1, w1, h1, h2, h3, h4, h5⟩ := elI.app1 (ty := 28) (ys := [.int .i64 x]) (h.keep e1 fun _ _ h => h) (Blk.new w _ _) rfl (by intro v hv; rw [List.mem_singleton.1 hv]; rfl) (by omega) (by omega)
  refine ⟨o1, w1, h1, by rw [ints_app]; exact h2, (no_own e1).tr h4, fun j hj => ?_⟩
  have := e1.size
  rcases h5 j hj with e | e
  · exact .inl e
  · exact .inr (by omega)
theorem new_ext {w0 w w1 : World} {o : Slc} (h : Ext (fun _ => False) w0 w) (ho : ∀ j, o.own j → w0.heap.size ≤ j) (k : Ext o.own w w1) : Ext (fun _ => False) w0 w1 := h.trans k (fun _ h => h) fun i hi e => by have := ho i e; omega
theorem new_own {w0 w : World} {o o1 : Slc} (h : Ext (fun _ => False) w0 w) (ho : ∀ j, o.own j → w0.heap.size ≤ j) (k : ∀ j, o1.own j → o.own j ∨ w.heap.size ≤ j) : ∀ j, o1.own j → w0.heap.size ≤ j := fun j hj => by
  have := h.size
  rcases k j hj with e | e
  · exact ho j e
  · omega
theorem nil_own : ∀ (n j : Nat), (⟨none, 0, 0⟩ : Slc).own j → n ≤ j := fun n j hj => by obtain ⟨a, ha, _⟩ := hj; cases ha
theorem r_Fixed (w : World) : C16 w fun a b w1 => IV w1 a fixL ∧ IV w1 b fixD ∧ Ext (fun _ => False) w w1 ∧ (∀ j, a.own j → w.heap.size ≤ j ∧ j < w1.heap.size) ∧ ∀ j, b.own j → w.heap.size ≤ j ∧ j < w1.heap.size := by
  refine T16 _ _ ?_
  unfold S16
  refine ⟨fun n st w1 => ∃ (i : Nat) (o : Slc), st = (o, (i : Int)) ∧ i ≤ 288 ∧ n = 288 - i ∧ Row w1 o 3 1 (ints ((List.range i).map fixV)) ∧ (∀ j, o.own j → w.heap.size ≤ j) ∧ Ext (fun _ => False) w w1, 288, ⟨0, ⟨none, 0, 0⟩, rfl, by omega, rfl, Row.nil _ _ _, nil_own _, Ext.refl _ _⟩, ?_⟩
  rintro n st w1 ⟨i, o, rfl, hi, rfl, hrow, hown, he⟩
  unfold S16L2
  dsimp only
  refine Br.dec (fun q => ?_) fun q => ?_
  · have step : ∀ x : Int, x = fixV i → ∃ o1 w2, RunV Tryd.prog (Builtin.append_ #[28, 28] 28 #[Slc.v o, Slc.v ⟨some ⟨w1.heap.size, 0, none⟩, 1, 1⟩]) (w1.alloc (.cells #[.int .i64 x] 3)) (Slc.v o1) w2 ∧ ∃ n', n' < 288 - i ∧ ∃ (i' : Nat) (o' : Slc), (o1, IntKind.i64.wrap ((i : Int) + 1)) = (o', (i' : Int)) ∧ i' ≤ 288 ∧ n' = 288 - i' ∧ Row w2 o' 3 1 (ints ((List.range i').map fixV)) ∧ (∀ j, o'.own j → w.heap.size ≤ j) ∧ Ext (fun _ => False) w w2 := fun x hx => by
      obtain ⟨o1, w2, h1, h2, h3, h4⟩ := app_int (x := x) hrow (by simp; omega)
      refine ⟨o1, w2, h1, 288 - (i + 1), by omega, i + 1, o1, by rw [i64_id (by omega)]; rfl, by omega, rfl, ?_, new_own he hown h4, new_ext he hown h3⟩
      rw [fixV_step, ← hx]
      exact h2
    refine ⟨fun x w2 => w2 = w1 ∧ x = (if 144 ≤ i ∧ i < 256 then 9 else 8), ?_, ?_⟩
    case refine_2 =>
      refine Br.dec (fun q1 => Br.dec (fun q2 => ⟨rfl, by rw [if_pos (by omega)]⟩) fun q2 => ⟨rfl, by rw [if_neg (by omega)]⟩) fun q1 => ⟨rfl, by rw [if_neg (by omega)]⟩
    rintro x w3 ⟨rfl, rfl⟩
    unfold S16J1
    dsimp only
    refine Br.dec (fun q1 => Br.dec (fun q2 => Nw.of (step 7 ?_)) fun q2 => Nw.of (step _ ?_)) fun q1 => Nw.of (step _ ?_)
    · unfold fixV; rw [if_pos (by omega)]
    · unfold fixV; repeat' split
      all_goals omega
    · unfold fixV; repeat' split
      all_goals omega
  · have : i = 288 := by omega
    subst this
    rw [fixV_all] at hrow
    have hlt : ∀ j, o.own j → w.heap.size ≤ j ∧ j < w1.heap.size := fun j hj => ⟨hown j hj, hrow.own_lt hj⟩
    refine ⟨fun n st w2 => ∃ (i : Nat) (o2 : Slc), st = (o2, (i : Int)) ∧ i ≤ 32 ∧ n = 32 - i ∧ Row w2 o2 3 1 (ints (List.replicate i 5)) ∧ (∀ j, o2.own j → w1.heap.size ≤ j) ∧ Ext (fun _ => False) w1 w2, 32, ⟨0, ⟨none, 0, 0⟩, rfl, by omega, rfl, Row.nil _ _ _, nil_own _, Ext.refl _ _⟩, ?_⟩
    rintro n st w2 ⟨i, o2, rfl, hi2, rfl, hrow2, hown2, he2⟩
    unfold S16L1
    dsimp only
    refine Br.dec (fun q3 => Nw.of ?_) fun q3 => ?_
    · obtain ⟨o3, w3, h1, h2, h3, h4⟩ := app_int (x := 5) hrow2 (by simp; omega)
      refine ⟨o3, w3, h1, 32 - (i + 1), by omega, i + 1, o3, by rw [i64_id (by omega)]; rfl, by omega, rfl, ?_, new_own he2 hown2 h4, new_ext he2 hown2 h3⟩
      rw [List.replicate_succ']
      exact h2
    · have : i = 32 := by omega
      subst this
      have z := he.size
      have z2 := he2.size
      exact ⟨(IV.row hrow).keep he2, IV.row hrow2, he.tr he2, fun j hj => by have := hlt j hj; omega, fun j hj => by have := hown2 j hj; have := hrow2.own_lt hj; omega⟩
theorem r_all {lens : List Int} {ls : Slc} {many : Nat} (hv : IV w ls lens) (hk : Lok lens) (h19 : lens.length = 19) (hs : s.size ≤ 1000000) (hp : p ≤ 8 * s.size) (hm : many ≤ 1000) :
    C69 s (p : Int) ls (many : Int) w fun r q e w1 => Ext (fun _ => False) w w1 ∧ ((∃ l q1, lensF lens s many (many + 1) [] p = .ok (l, q1) ∧ e = 0 ∧ q = ((q1 : Nat) : Int) ∧ IV w1 r l ∧ r.len ≤ r.cap ∧ ∀ j, r.own j → w.heap.size ≤ j ∧ j < w1.heap.size) ∨ ∃ y : Int, lensF lens s many (many + 1) [] p = .error y ∧ e = y ∧ y ≠ 0) := by
  refine T69 _ _ _ _ _ _ ?_
  unfold S69
  generalize hR : lensF lens s many (many + 1) [] p = R0
  refine ⟨fun n st w2 => ∃ (l : List Int) (q : Nat) (o : Slc), st = ((q : Int), o) ∧ Row w2 o 3 1 (ints l) ∧ (∀ j, o.own j → w.heap.size ≤ j) ∧ Ext (fun _ => False) w w2 ∧ q ≤ 8 * s.size ∧ l.length ≤ many ∧ many < l.length + n ∧ lensF lens s many n l q = R0, many + 1, ⟨[], p, ⟨none, 0, 0⟩, rfl, Row.nil _ _ _, nil_own _, Ext.refl _ _, hp, Nat.zero_le _, by simp, hR⟩, ?_⟩
  rintro n st w2 ⟨l, q, o, rfl, hrow, hown, e2, hq, hlm, hfu, hres⟩
  unfold S69L2
  dsimp only
  have hsl : o.len = l.length := by have := hrow.1; rw [ints_len] at this; omega
  have hz2 := e2.size
  rw [hsl]
  obtain ⟨n, rfl⟩ : ∃ n', n = n' + 1 := ⟨n - 1, by omega⟩
  unfold lensF at hres
  refine Br.dec (fun q1 => ?_) fun q1 => ?_
  · rw [if_neg (by omega)] at hres
    refine (r_sym (hv.keep e2) hk hs hq).mono ?_
    rintro g q e w3 ⟨hg, e3⟩
    have E3 := e2.tr e3
    rcases hg with ⟨g, q3, hg, rfl, rfl, rfl⟩ | ⟨y, hg, rfl, hy⟩
    rotate_left
    · rw [hg] at hres
      exact Br.t (by simpa using hy) ⟨E3, .inr ⟨_, hres.symm, rfl, hy⟩⟩
    refine Br.f rfl ?_
    rw [hg] at hres
    dsimp only at hres
    obtain ⟨g1, g2, g3⟩ := sym_ok hg
    rw [h19] at g3
    have hrow3 := hrow.keep e3 fun _ _ h => h
    refine Br.dec (fun q4 => Nw.of ?_) fun q4 => ?_
    · rw [if_pos (by omega)] at hres
      obtain ⟨o1, w4, h1, h2, h3, h4⟩ := app_int (x := (g : Int)) hrow3 (by omega)
      exact ⟨o1, w4, h1, n, by omega, _, q3, o1, rfl, h2, new_own E3 hown h4, new_ext E3 hown h3, g2, by rw [List.length_append]; simp; omega, by rw [List.length_append]; simp; omega, hres⟩
    rw [if_neg (by omega)] at hres
    refine ⟨fun _ w4 => w4 = w3 ∧ ¬ (g = 16 ∧ l.length = 0), ?_, ?_⟩
    case refine_2 =>
      refine Br.eq (fun q5 => Br.eq (fun q6 => ?_) fun q6 => ⟨rfl, by omega⟩) fun q5 => ⟨rfl, by omega⟩
      rw [if_pos (by omega)] at hres
      exact ⟨E3, .inr ⟨3, hres.symm, rfl, by decide⟩⟩
    rintro _ w3 ⟨rfl, hne⟩
    rw [if_neg hne] at hres
    unfold S69J4
    dsimp only
    refine ⟨fun x w4 => w4 = w3 ∧ x = (if g = 16 then l.getD (l.length - 1) 0 else 0), ?_, ?_⟩
    case refine_2 =>
      refine Br.eq (fun q5 => ?_) fun q5 => ⟨rfl, by rw [if_neg (by omega)]⟩
      rw [hsl, i64_id (n := ((l.length : Nat) : Int) - 1) (by omega)]
      obtain ⟨a, ha, hc⟩ := (IV.row hrow3).get (i := l.length - 1) (by omega)
      rw [ha]
      refine ⟨by omega, by omega, Nn.of ?_⟩
      rw [show (((l.length : Nat) : Int) - 1).toNat = l.length - 1 by omega]
      exact Ld.mk hc ⟨rfl, by rw [if_pos (by omega)]⟩
    rintro what w3 ⟨rfl, hwhat⟩
    unfold S69J3
    refine ⟨fun x w4 => w4 = w3 ∧ x = (if g = 17 then 3 else 2), ?_, ?_⟩
    case refine_2 => exact Br.eq (fun q5 => ⟨rfl, by rw [if_pos (by omega)]⟩) fun q5 => ⟨rfl, by rw [if_neg (by omega)]⟩
    rintro x w3 ⟨rfl, rfl⟩
    unfold S69J2
    refine ⟨fun x w4 => w4 = w3 ∧ x = (((repB g : Nat) : Int), ((repL g : Nat) : Int)), ?_, ?_⟩
    case refine_2 =>
      refine Br.eq (fun q5 => ⟨rfl, ?_⟩) fun q5 => ⟨rfl, ?_⟩
      · have : g = 18 := by omega
        subst this; rfl
      · have : g = 16 ∨ g = 17 := by omega
        rcases this with rfl | rfl <;> rfl
    rintro x w3 ⟨rfl, rfl⟩
    unfold S69J1
    dsimp only
    have hB : repB g ≤ 7 ∧ 2 ≤ repB g := by unfold repB; split; omega; split <;> omega
    have hLb : repL g ≤ 11 ∧ 3 ≤ repL g := by unfold repL; split <;> omega
    refine (r_number (n := repB g) (by omega) hs g2 w3).mono ?_
    rintro v q e w4 ⟨hn, e4⟩
    have E4 := E3.tr e4
    rcases hn with ⟨q8, hn, rfl, rfl⟩ | ⟨hn, rfl⟩
    rotate_left
    · rw [hn] at hres
      exact Br.t rfl ⟨E4, .inr ⟨4, hres.symm, rfl, by decide⟩⟩
    refine Br.f rfl ?_
    rw [hn] at hres
    dsimp only at hres
    obtain ⟨x0, x1, rfl, x3⟩ := num_bd hn
    have hp7 : (2 : Int) ^ repB g ≤ 2 ^ 7 := two_pow_le (by omega)
    have h27 : (2 : Int) ^ 7 = 128 := by decide
    obtain ⟨x, rfl⟩ := Int.eq_ofNat_of_zero_le x0
    simp only [Int.toNat_natCast] at hres
    rw [hsl, i64_id (n := ((repL g : Nat) : Int) + (x : Int)) (by omega), i64_id (n := (many : Int) - ((l.length : Nat) : Int)) (by omega)]
    refine Lt.of (Br.dec (fun q6 => ?_) fun q6 => ?_)
    · rw [if_pos (by omega)] at hres
      exact ⟨E4, .inr ⟨3, hres.symm, rfl, by decide⟩⟩
    rw [if_neg (by omega), ← hwhat] at hres
    have hrow4 := hrow3.keep e4 fun _ _ h => h
    refine ⟨fun m st w5 => ∃ (i : Nat) (o5 : Slc), st = (o5, (i : Int)) ∧ i ≤ repL g + x ∧ m = repL g + x - i ∧ Row w5 o5 3 1 (ints (l ++ List.replicate i what)) ∧ (∀ j, o5.own j → w.heap.size ≤ j) ∧ Ext (fun _ => False) w w5, repL g + x, ⟨0, o, rfl, by omega, rfl, by simpa using hrow4, hown, E4⟩, ?_⟩
    rintro m st w5 ⟨i, o5, rfl, hi, rfl, hrow5, hown5, e5⟩
    unfold S69L1
    dsimp only
    rw [i64_id (n := ((repL g : Nat) : Int) + (x : Int)) (by omega)]
    refine Br.dec (fun q7 => Nw.of ?_) fun q7 => ?_
    · obtain ⟨o6, w6, h1, h2, h3, h4⟩ := app_int (x := what) hrow5 (by rw [List.length_append, List.length_replicate]; omega)
      refine ⟨o6, w6, h1, repL g + x - (i + 1), by omega, i + 1, o6, by rw [i64_id (by omega)]; rfl, by omega, rfl, ?_, new_own e5 hown5 h4, new_ext e5 hown5 h3⟩
      rw [List.replicate_succ', ← List.append_assoc]
      exact h2
    · have : i = repL g + x := by omega
      subst this
      exact ⟨n, by omega, _, q3 + repB g, o5, rfl, hrow5, hown5, e5, by omega, by rw [List.length_append, List.length_replicate]; omega, by rw [List.length_append, List.length_replicate]; omega, hres⟩
  · rw [if_pos (by omega)] at hres
    exact ⟨e2, .inl ⟨l, q, hres.symm, rfl, rfl, IV.row hrow, by have := row_cap hrow; omega, fun j hj => ⟨hown j hj, hrow.own_lt hj⟩⟩⟩
end
end Inf
end Go.Proofs.YtapgacggllbhiaaDoor
