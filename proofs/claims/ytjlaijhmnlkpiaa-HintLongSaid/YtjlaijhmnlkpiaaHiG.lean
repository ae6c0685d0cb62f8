/- Hints: reading numbers, both sides. Conditions: sizes. -/
import Derived.Test.YtjlaijhmnlkpiaaHiF
import Derived.Test.YtjlaijhmnlkpiaaBitR
namespace Go.Proofs.Ytjlaijhmnlkpiaa
namespace Hint
open Sh Bit
set_option linter.unusedVariables false
set_option linter.unusedSimpArgs false
set_option maxRecDepth 4000
set_option maxHeartbeats 2000000
def gup : Value := .iface 109 (.agg #[])
theorem ior_add {x c : Int} {k : Nat} (hx : 0 ≤ x ∧ x < 4294967296) (hc : 0 ≤ c ∧ c < 2 ^ k) (hk : k ≤ 16) : ior .i64 (x * 2 ^ k) c = x * 2 ^ k + c := by
  obtain ⟨n, rfl⟩ := Int.eq_ofNat_of_zero_le hx.1
  obtain ⟨d, rfl⟩ := Int.eq_ofNat_of_zero_le hc.1
  have e : ((n : Int) * 2 ^ k) = ((n * 2 ^ k : Nat) : Int) := by simp
  have hd : d < 2 ^ k := by exact_mod_cast hc.2
  have hp' : 2 ^ k ≤ 2 ^ 16 := Nat.pow_le_pow_right (by decide) hk
  have h16 : (2 : Nat) ^ 16 = 65536 := by decide
  have hn : n * 2 ^ k ≤ n * 65536 := Nat.mul_le_mul_left _ (by omega)
  rw [e, ior_nat (by omega) (by omega), Nat.or_comm, or_shift hd, Int.natCast_add]
  omega
theorem tkR_yes {s : ByteArray} {p : Nat} {way : Int} {n : Nat} (hw : way = 0 ∨ way = 2) (hn : n ≤ 24) (h : p + n ≤ 8 * s.size) : tkR s p way (n : Int) 2 = (tk s 2 p n, 0, p + n, if 0 < (n : Int) then 2 else way) := by
  rw [tkR_ok (by omega) (by omega)]
  simp
theorem tkR_no {s : ByteArray} {p : Nat} {way : Int} {n : Nat} (hw : way = 0 ∨ way = 2) (hn : n ≤ 24) (hp : p ≤ 8 * s.size) (h : ¬ p + n ≤ 8 * s.size) : tkR s p way (n : Int) 2 = (0, 4, p, way) := tkR_end (by omega) (by omega)
attribute [local irreducible] Ld St Nw Nn Lt LdS
section
variable {w : World} {b : Nat} {s : ByteArray} {p : Nat} {way : Int}
/-- A reader at bit p, in High's order or none. -/
def RB (w : World) (b : Nat) (s : ByteArray) (p : Nat) : Prop := p ≤ 8 * s.size ∧ ∃ way, (way = 0 ∨ way = 2) ∧ RdB w b s p way
def RR (w : World) (b : Nat) (s : ByteArray) (p : Nat) : Prop := p ≤ 8 * s.size ∧ ∃ way, (way = 0 ∨ way = 2) ∧ RdR w b s p way
theorem RB.keep {w2 : World} {G : Nat → Prop} (h : RB w b s p) (he : Ext G w w2) (hn : ¬ G b) : RB w2 b s p := by
  obtain ⟨h1, way, h2, h3⟩ := h
  exact ⟨h1, way, h2, he.blk h3 hn⟩
theorem RR.keep {w2 : World} {G : Nat → Prop} (h : RR w b s p) (he : Ext G w w2) (hn : ¬ G b) : RR w2 b s p := by
  obtain ⟨h1, way, h2, h3⟩ := h
  exact ⟨h1, way, h2, he.blk h3 hn⟩
theorem RB.lt (h : RB w b s p) : b < w.heap.size := by obtain ⟨_, _, _, h⟩ := h; exact Blk.lt h
theorem RR.lt (h : RR w b s p) : b < w.heap.size := by obtain ⟨_, _, _, h⟩ := h; exact Blk.lt h
theorem c_eye (h : RB w b s p) (hs : s.size ≤ 1000000) {n : Nat} (hn : n ≤ 32) (m : Int) :
    C95 (at0 b) (n : Int) m w (fun v w1 => v = tk s 2 p n ∧ v ≤ m ∧ RB w1 b s (p + n) ∧ Ext (· = b) w w1) fun v w1 => v = gup ∧ (¬ p + n ≤ 8 * s.size ∨ m < tk s 2 p n) ∧ Ext (· = b) w w1 := by
  refine T95 _ _ _ _ _ _ ?_
  unfold S95
  have hbl := h.lt
  refine (Hn.start w).nw' fun w2 H e2 => ?_
  have hb2 := H.get 0 rfl
  have h2 := h.keep e2 fun h => h
  have e0 : Ext (· = b) w w2 := e2.mono fun _ _ h => h.elim
  refine ⟨fun k st w1 => ∃ j : Nat, j ≤ n ∧ k = n - j ∧ st = (((n - j : Nat) : Int), tk s 2 p j) ∧ (j = 0 ∨ j = 16 ∨ j = n) ∧ RB w1 b s (p + j) ∧ Ext (· = b) w2 w1, n, ⟨0, by omega, rfl, rfl, .inl rfl, h2, Ext.refl _ _⟩, ?_⟩
  rintro k ⟨x, y⟩ w1 ⟨j, hj, rfl, hst, hj16, hr, he⟩
  cases hst
  unfold S95L1
  dsimp only
  refine Br.dec (fun hx => ?_) fun hx => ?_
  · have hj1 : j ≤ 16 := by omega
    have hpb := he.blk hb2 (fun e => by have e : w.heap.size = b := e; omega)
    refine Ld.of hpb rfl ?_
    obtain ⟨q, hq⟩ : ∃ q : Nat, q = if 16 < n - j then 16 else n - j := ⟨_, rfl⟩
    have hqe : (if (16 : Int) < ((n - j : Nat) : Int) then (16 : Int) else ((n - j : Nat) : Int)) = (q : Int) := by
      rw [hq]
      split
      · rw [if_pos (by omega)]; rfl
      · rw [if_neg (by omega)]
    have hq16 : q ≤ 16 ∧ q ≤ n - j ∧ 0 < q := by rw [hq]; split <;> omega
    rw [hqe]
    obtain ⟨hp, way, hway, hrd⟩ := hr
    refine (c_high hrd hp hs (q : Int)).mono ?_
    rintro v er w3 ⟨rfl, rfl, hrd3, he3⟩
    by_cases hfit : p + j + q ≤ 8 * s.size
    · rw [tkR_yes hway (by omega) hfit] at hrd3 ⊢
      dsimp only at hrd3 ⊢
      refine Br.f rfl ⟨by omega, ?_⟩
      have hb := tk_bd s 2 p j
      have hb3 := tk_bd s 2 (p + j) q
      have hle : (2 : Int) ^ j ≤ 2 ^ 16 := two_pow_le hj1
      have hle2 : (2 : Int) ^ q ≤ 2 ^ 16 := two_pow_le hq16.1
      have h16 : (2 : Int) ^ 16 = 65536 := by decide
      have hmul : 0 ≤ tk s 2 p j * 2 ^ q ∧ tk s 2 p j * 2 ^ q ≤ 4294967296 := by
        refine ⟨Int.mul_nonneg hb.1 (by omega), ?_⟩
        have := Int.mul_le_mul (a := tk s 2 p j) (b := 2 ^ q) (c := 65536) (d := 65536) (by omega) (by omega) (by omega) (by omega)
        omega
      have hmin : min (q : Int).toNat 64 = q := by simp; omega
      rw [hmin, i64_id (n := tk s 2 p j * 2 ^ q) (by omega), ior_add (by omega) hb3 hq16.1, i64_id (by omega)]
      have htk := tk_high s p j q
      refine Lt.of ⟨n - (j + q), by omega, j + q, by omega, rfl, ?_, ?_, ?_, he.tr he3⟩
      · rw [htk]
        congr 1
        omega
      · rw [hq]; split <;> omega
      · refine ⟨by omega, _, ?_, by rw [← Nat.add_assoc]; exact hrd3⟩
        split
        · exact .inr rfl
        · exact hway
    · rw [tkR_no hway (by omega) hp hfit] at hrd3 ⊢
      exact Br.t rfl ⟨rfl, .inl (by omega), e0.tr (he.tr he3)⟩
  · obtain rfl : j = n := by omega
    refine Br.dec (fun hm => ⟨rfl, .inr (by omega), e0.tr he⟩) fun hm => ⟨rfl, by omega, hr, e0.tr he⟩
/-- The reference's number: what is read, or anything that is small enough. -/
theorem r_number24 (h : RR w b s p) (hs : s.size ≤ 1000000) {n : Nat} (hn : n ≤ 24) :
    C82 (at0 b) (n : Int) w fun v w1 => 0 ≤ v ∧ v < 2 ^ n ∧ Ext (· = b) w w1 ∧ ((p + n ≤ 8 * s.size ∧ v = tk s 2 p n ∧ RR w1 b s (p + n)) ∨ (¬ p + n ≤ 8 * s.size ∧ RR w1 b s p)) := by
  refine T82 _ _ _ _ ?_
  unfold S82
  refine Br.f (decide_eq_false (by omega)) ?_
  obtain ⟨hp, way, hway, hrd⟩ := h
  refine (r_high hrd hp hs (n : Int)).mono ?_
  rintro v er w3 ⟨rfl, rfl, hrd3, he3⟩
  by_cases hfit : p + n ≤ 8 * s.size
  · rw [tkR_yes hway hn hfit] at hrd3 ⊢
    dsimp only at hrd3 ⊢
    have hb := tk_bd s 2 p n
    refine ⟨hb.1, hb.2, he3, .inl ⟨hfit, rfl, hfit, _, ?_, hrd3⟩⟩
    split
    · exact .inr rfl
    · exact hway
  · rw [tkR_no hway hn hp hfit] at hrd3 ⊢
    exact ⟨by simp, Int.pow_pos (by decide), he3, .inr ⟨hfit, hp, way, hway, hrd3⟩⟩
theorem r_number32 (h : RR w b s p) (hs : s.size ≤ 1000000) :
    C82 (at0 b) 32 w fun v w1 => 0 ≤ v ∧ v < 4294967296 ∧ Ext (· = b) w w1 ∧ ((p + 32 ≤ 8 * s.size ∧ v = tk s 2 p 32 ∧ RR w1 b s (p + 32)) ∨ (¬ p + 32 ≤ 8 * s.size ∧ ∃ p', RR w1 b s p' ∧ ¬ p' + 16 ≤ 8 * s.size)) := by
  refine T82 _ _ _ _ ?_
  unfold S82
  have h16 : (2 : Int) ^ 16 = 65536 := by decide
  refine Br.t (by decide) ?_
  have e16 : IntKind.i64.wrap (32 - 16) = ((16 : Nat) : Int) := by decide
  rw [e16]
  refine (r_number24 h hs (n := 16) (by omega)).mono ?_
  rintro v w1 ⟨v0, v1, he, hv⟩
  have fin : ∀ {q : Nat}, RR w1 b s q → C82 (at0 b) 16 w1 fun v w2 => 0 ≤ v ∧ v < 2 ^ 16 ∧ Ext (· = b) w1 w2 ∧ ((q + 16 ≤ 8 * s.size ∧ v = tk s 2 q 16 ∧ RR w2 b s (q + 16)) ∨ (¬ q + 16 ≤ 8 * s.size ∧ RR w2 b s q)) := fun hq => r_number24 hq hs (n := 16) (by omega)
  rcases hv with ⟨f1, f2, f3⟩ | ⟨f1, f2⟩
  · refine (fin f3).mono ?_
    rintro u w2 ⟨u0, u1, ue, hu⟩
    rw [i64_id (n := 65536 * v) (by omega), i64_id (by omega)]
    refine ⟨by omega, by omega, he.tr ue, ?_⟩
    rcases hu with ⟨g1, g2, g3⟩ | ⟨g1, g2⟩
    · refine .inl ⟨by omega, ?_, g3⟩
      rw [show (32 : Nat) = 16 + 16 by rfl, tk_high, ← f2, ← g2, h16]
      omega
    · exact .inr ⟨by omega, _, g2, g1⟩
  · refine (fin f2).mono ?_
    rintro u w2 ⟨u0, u1, ue, hu⟩
    rw [i64_id (n := 65536 * v) (by omega), i64_id (by omega)]
    refine ⟨by omega, by omega, he.tr ue, ?_⟩
    rcases hu with ⟨g1, g2, g3⟩ | ⟨g1, g2⟩
    · omega
    · exact .inr ⟨by omega, _, g2, g1⟩
end
end Hint
end Go.Proofs.Ytjlaijhmnlkpiaa
