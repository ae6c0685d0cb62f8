/- Numbers written bit by bit: plain laws, no program in sight. No condition. -/
import Derived.Test.YtapgacggllbhiaaBitM
namespace Go.Proofs.Ytapgacggllbhiaa
namespace Bit
open Sh
set_option linter.unusedVariables false

/-- Where the next bit goes in its byte. -/
def pl (way : Int) (used : Nat) : Nat := if way = 1 then used else 7 - used
def grow (st : List UInt8 × Nat) : List UInt8 := if st.2 = 0 then st.1 ++ [0] else st.1
def lastN (l : List UInt8) : Nat := (l.getD (l.length - 1) 0).toNat
def addLast (l : List UInt8) (v : Nat) : List UInt8 := l.set (l.length - 1) (UInt8.ofNat (lastN l + v))
/-- What is written (the bytes; how many bits of the last are used), after one more bit. -/
def oneS (way : Int) (st : List UInt8 × Nat) (b : Nat) : List UInt8 × Nat := (addLast (grow st) (b * 2 ^ pl way st.2), (st.2 + 1) % 8)
/-- What stands in the bits that are not used yet: nothing. -/
structure WOK (way : Int) (st : List UInt8 × Nat) : Prop where
  lt : st.2 < 8
  ne : st.2 ≠ 0 → st.1 ≠ []
  low : st.2 ≠ 0 → way = 1 → lastN st.1 < 2 ^ st.2
  high : st.2 ≠ 0 → way ≠ 1 → ∃ k, lastN st.1 = k * 2 ^ (8 - st.2)
theorem WOK.zero (way : Int) (l : List UInt8) : WOK way (l, 0) := ⟨by omega, fun h => absurd rfl h, fun h => absurd rfl h, fun h => absurd rfl h⟩
theorem grow_ne {way : Int} {st : List UInt8 × Nat} (h : WOK way st) : grow st ≠ [] := by
  unfold grow
  split
  · simp
  · rename_i h0; exact h.ne h0
theorem lastN_lt (l : List UInt8) : lastN l < 256 := UInt8.toNat_lt _
theorem lastN_push (l : List UInt8) : lastN (l ++ [0]) = 0 := by simp [lastN]
theorem grow_low {st : List UInt8 × Nat} (h : WOK 1 st) : lastN (grow st) < 2 ^ st.2 := by
  unfold grow
  split
  · rename_i h0; rw [lastN_push, h0]; decide
  · rename_i h0; exact h.low h0 rfl
theorem grow_high {way : Int} {st : List UInt8 × Nat} (h : WOK way st) (hw : way ≠ 1) : ∃ k, lastN (grow st) = k * 2 ^ (8 - st.2) := by
  unfold grow
  split
  · exact ⟨0, by rw [lastN_push]; simp⟩
  · rename_i h0; exact h.high h0 hw
/-- The new byte is below 256, and or-ing is adding. -/
theorem place_new {way : Int} {st : List UInt8 × Nat} (h : WOK way st) {b : Nat} (hb : b ≤ 1) :
    lastN (grow st) + b * 2 ^ pl way st.2 < 256 ∧ lastN (grow st) ||| b * 2 ^ pl way st.2 = lastN (grow st) + b * 2 ^ pl way st.2 ∧ b * 2 ^ pl way st.2 < 256 := by
  have hlt := h.lt
  have h1 : b * 2 ^ pl way st.2 ≤ 1 * 2 ^ pl way st.2 := Nat.mul_le_mul_right _ hb
  by_cases hw : way = 1
  · subst hw
    have hx := grow_low h
    have hp : pl 1 st.2 = st.2 := by simp [pl]
    rw [hp] at h1 ⊢
    have h8 : 2 ^ (st.2 + 1) ≤ 2 ^ 8 := Nat.pow_le_pow_right (by decide) (by omega)
    rw [Nat.pow_succ] at h8
    exact ⟨by omega, or_shift hx, by omega⟩
  · obtain ⟨k, hk⟩ := grow_high h hw
    have hp : pl way st.2 = 7 - st.2 := by simp [pl, hw]
    have h256 := lastN_lt (grow st)
    rw [hp] at h1 ⊢
    have e8 : 8 - st.2 = 7 - st.2 + 1 := by omega
    have h8 : 2 ^ (8 - st.2) = 2 * 2 ^ (7 - st.2) := by rw [e8, Nat.pow_succ]; omega
    have e256 : 256 = 2 ^ (8 - st.2) * 2 ^ st.2 := by rw [← Nat.pow_add, show 8 - st.2 + st.2 = 8 by omega]
    have hk' : k < 2 ^ st.2 := by
      rw [hk, e256, Nat.mul_comm (2 ^ (8 - st.2))] at h256
      exact Nat.lt_of_mul_lt_mul_right h256
    have hsum : (k + 1) * 2 ^ (8 - st.2) ≤ 256 := by
      rw [e256, Nat.mul_comm (2 ^ (8 - st.2))]
      exact Nat.mul_le_mul_right _ hk'
    rw [Nat.add_mul] at hsum
    have hpos : 0 < 2 ^ (7 - st.2) := Nat.pow_pos (by decide)
    refine ⟨by omega, ?_, by omega⟩
    rw [hk, Nat.or_comm, or_shift (by rw [h8]; omega), Nat.add_comm]
theorem lastN_addLast {l : List UInt8} {v : Nat} (hl : l ≠ []) (hv : lastN l + v < 256) : lastN (addLast l v) = lastN l + v := by
  have : 0 < l.length := List.length_pos_iff.2 hl
  unfold lastN addLast at *
  rw [List.length_set]
  simp only [List.getD_eq_getElem?_getD, List.getElem?_set_self (show l.length - 1 < l.length by omega), Option.getD_some]
  simp only [UInt8.toNat_ofNat']
  exact Nat.mod_eq_of_lt hv
theorem WOK.one {way : Int} {st : List UInt8 × Nat} (h : WOK way st) {b : Nat} (hb : b ≤ 1) : WOK way (oneS way st b) := by
  have hn := grow_ne h
  obtain ⟨h1, _, _⟩ := place_new h hb
  have hl := lastN_addLast hn h1
  have hlt := h.lt
  have hle : b * 2 ^ pl way st.2 ≤ 1 * 2 ^ pl way st.2 := Nat.mul_le_mul_right _ hb
  refine ⟨Nat.mod_lt _ (by decide), fun _ => ?_, fun hu hw => ?_, fun hu hw => ?_⟩
  · intro e
    have : (addLast (grow st) (b * 2 ^ pl way st.2)).length = 0 := by
      show (oneS way st b).1.length = 0
      rw [e]; rfl
    unfold addLast at this
    rw [List.length_set] at this
    exact hn (List.eq_nil_of_length_eq_zero this)
  · show lastN (addLast (grow st) (b * 2 ^ pl way st.2)) < 2 ^ ((st.2 + 1) % 8)
    have hu' : (st.2 + 1) % 8 ≠ 0 := hu
    subst hw
    rw [hl, show (st.2 + 1) % 8 = st.2 + 1 by omega, Nat.pow_succ]
    have hx := grow_low h
    rw [show pl 1 st.2 = st.2 by simp [pl]] at hle ⊢
    omega
  · show ∃ k, lastN (addLast (grow st) (b * 2 ^ pl way st.2)) = k * 2 ^ (8 - (st.2 + 1) % 8)
    have hu' : (st.2 + 1) % 8 ≠ 0 := hu
    obtain ⟨k, hk⟩ := grow_high h hw
    rw [hl, hk, show (st.2 + 1) % 8 = st.2 + 1 by omega, show pl way st.2 = 7 - st.2 by simp [pl, hw], show 8 - (st.2 + 1) = 7 - st.2 by omega, show 8 - st.2 = 7 - st.2 + 1 by omega, Nat.pow_succ]
    exact ⟨k * 2 + b, by rw [Nat.add_mul, Nat.mul_assoc, Nat.mul_comm 2]⟩
/-- Bit i of the n that a number has, in the order of writing. -/
def vbit (way : Int) (v n i : Nat) : Nat := if way = 1 then v / 2 ^ i % 2 else v / 2 ^ (n - 1 - i) % 2
theorem vbit_le (way : Int) (v n i : Nat) : vbit way v n i ≤ 1 := by unfold vbit; split <;> omega
/-- After i of the n bits. -/
def putS (way : Int) (v n : Nat) (st : List UInt8 × Nat) : Nat → List UInt8 × Nat
  | 0 => st
  | i + 1 => oneS way (putS way v n st i) (vbit way v n i)
theorem WOK.put {way : Int} {st : List UInt8 × Nat} (h : WOK way st) (v n : Nat) : ∀ i, WOK way (putS way v n st i)
  | 0 => h
  | i + 1 => (h.put v n i).one (vbit_le _ _ _ _)
theorem grow_len (st : List UInt8 × Nat) : (grow st).length ≤ st.1.length + 1 := by unfold grow; split <;> simp
theorem oneS_len (way : Int) (st : List UInt8 × Nat) (b : Nat) : (oneS way st b).1.length = (grow st).length := by unfold oneS addLast; simp
theorem putS_len (way : Int) (v n : Nat) (st : List UInt8 × Nat) : ∀ i, (putS way v n st i).1.length ≤ st.1.length + i
  | 0 => Nat.le_refl _
  | i + 1 => by
    have := putS_len way v n st i
    have h2 := grow_len (putS way v n st i)
    show (oneS way _ _).1.length ≤ _
    rw [oneS_len]
    omega
/-- What Low and High of a writer answer: the error, what is written now, the order. -/
def putR (way : Int) (st : List UInt8 × Nat) (v n w' : Int) : Int × (List UInt8 × Nat) × Int :=
  if n < 0 ∨ 24 < n ∨ v < 0 ∨ 2 ^ n.toNat ≤ v ∨ (way ≠ 0 ∧ way ≠ w') then (1, st, way)
  else (0, putS w' v.toNat n.toNat st n.toNat, if 0 < n then w' else way)
theorem putR_arg {way : Int} {st : List UInt8 × Nat} {v n w' : Int} (h : n < 0 ∨ 24 < n ∨ v < 0 ∨ 2 ^ n.toNat ≤ v ∨ (way ≠ 0 ∧ way ≠ w')) : putR way st v n w' = (1, st, way) := if_pos h
theorem putR_ok {way : Int} {st : List UInt8 × Nat} {v n w' : Int} (h : ¬ (n < 0 ∨ 24 < n ∨ v < 0 ∨ 2 ^ n.toNat ≤ v ∨ (way ≠ 0 ∧ way ≠ w'))) :
    putR way st v n w' = (0, putS w' v.toNat n.toNat st n.toNat, if 0 < n then w' else way) := if_neg h
/-- What holds of a writer between calls. -/
structure WInv (way : Int) (st : List UInt8 × Nat) : Prop where
  ok : WOK way st
  none : way = 0 → st.2 = 0
theorem WInv.to {way : Int} {st : List UInt8 × Nat} (h : WInv way st) {w' : Int} (hn : ¬ (way ≠ 0 ∧ way ≠ w')) : WOK w' st := by
  by_cases hw : way = 0
  · obtain ⟨l, u⟩ := st
    have : u = 0 := h.none hw
    subst this
    exact WOK.zero _ _
  · have : way = w' := by
      by_cases e : way = w'
      · exact e
      · exact absurd ⟨hw, e⟩ hn
    exact this ▸ h.ok
theorem WInv.zero (l : List UInt8) : WInv 0 (l, 0) := ⟨WOK.zero _ _, fun _ => rfl⟩
theorem WInv.put {way : Int} {st : List UInt8 × Nat} (h : WInv way st) (v n : Int) {w' : Int} (hw : w' ≠ 0) : WInv (putR way st v n w').2.2 (putR way st v n w').2.1 := by
  by_cases hc : n < 0 ∨ 24 < n ∨ v < 0 ∨ 2 ^ n.toNat ≤ v ∨ (way ≠ 0 ∧ way ≠ w')
  · rw [putR_arg hc]; exact h
  · rw [putR_ok hc]
    dsimp only
    split
    · exact ⟨(h.to (by omega)).put _ _ _, fun e => absurd e hw⟩
    · have : n.toNat = 0 := by omega
      rw [this]
      exact h
theorem putR_len (way : Int) (st : List UInt8 × Nat) (v n w' : Int) : (putR way st v n w').2.1.1.length ≤ st.1.length + 24 := by
  unfold putR
  split
  · dsimp only; omega
  · dsimp only
    have := putS_len w' v.toNat n.toNat st n.toNat
    omega
theorem vbit_low (v i : Nat) (hv : v < 16777216) : iand .i64 (Int.fdiv (v : Int) (2 ^ i)) 1 = ((v / 2 ^ i % 2 : Nat) : Int) := by
  have h := @ediv_pow_bd (v : Int) i (by omega)
  rw [fdiv_pow, iand_one h.1 (by omega)]
  simp
end Bit
end Go.Proofs.Ytapgacggllbhiaa
