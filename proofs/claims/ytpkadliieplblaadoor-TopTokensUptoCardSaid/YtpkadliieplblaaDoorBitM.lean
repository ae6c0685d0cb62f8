/- Numbers read bit by bit: plain laws, no program in sight. No condition. -/
import Derived.Test.YtpkadliieplblaaDoorHp
namespace Go.Proofs.YtpkadliieplblaaDoor
namespace Bit
open Sh
set_option linter.unusedVariables false

/-- Byte i of a string, as a number. -/
def byt (s : ByteArray) (i : Nat) : Int := ((s.data.getD i 0).toNat : Int)
theorem byt_bd (s : ByteArray) (i : Nat) : 0 ≤ byt s i ∧ byt s i ≤ 255 := by
  unfold byt
  have := (s.data.getD i 0).toNat_lt
  omega
theorem bAt_byt (s : ByteArray) (i : Nat) : bAt s (i : Int) = byt s i := by
  unfold bAt byt
  rw [Int.toNat_natCast]
/-- Bit p of a string, in the order 'way' (1: least significant first). -/
def bt (s : ByteArray) (way : Int) (p : Nat) : Int := if way = 1 then byt s (p / 8) / 2 ^ (p % 8) % 2 else byt s (p / 8) / 2 ^ (7 - p % 8) % 2
theorem bt_bd (s : ByteArray) (way : Int) (p : Nat) : 0 ≤ bt s way p ∧ bt s way p ≤ 1 := by
  unfold bt
  split <;> omega
/-- The number in i bits from p on. -/
def tk (s : ByteArray) (way : Int) (p : Nat) : Nat → Int
  | 0 => 0
  | i + 1 => if way = 1 then tk s way p i + bt s way (p + i) * 2 ^ i else 2 * tk s way p i + bt s way (p + i)
theorem two_pow_pos (i : Nat) : (0 : Int) < 2 ^ i := Int.pow_pos (by decide)
theorem two_pow_succ (i : Nat) : (2 : Int) ^ (i + 1) = 2 * 2 ^ i := by rw [Int.pow_succ]; omega
theorem two_pow_le {i j : Nat} (h : i ≤ j) : (2 : Int) ^ i ≤ 2 ^ j := by
  obtain ⟨d, rfl⟩ := Nat.exists_eq_add_of_le h
  induction d with
  | zero => exact Int.le_refl _
  | succ d ih => have := ih (by omega); rw [← Nat.add_assoc, two_pow_succ]; have := two_pow_pos (i + d); omega
theorem two_pow_24 {i : Nat} (h : i ≤ 24) : (2 : Int) ^ i ≤ 16777216 := by
  have := two_pow_le h
  have e : (2 : Int) ^ 24 = 16777216 := by decide
  omega
theorem tk_bd (s : ByteArray) (way : Int) (p : Nat) : ∀ i, 0 ≤ tk s way p i ∧ tk s way p i < 2 ^ i
  | 0 => by simp [tk]
  | i + 1 => by
    have ih := tk_bd s way p i
    have hb := bt_bd s way (p + i)
    have hp := two_pow_pos i
    rw [two_pow_succ]
    unfold tk
    split
    · have h1 : bt s way (p + i) = 0 ∨ bt s way (p + i) = 1 := by omega
      rcases h1 with h1 | h1 <;> rw [h1] <;> omega
    · omega
/-- Reading i bits, then j bits. -/
theorem tk_low (s : ByteArray) (p i : Nat) : ∀ j, tk s 1 p (i + j) = tk s 1 (p + i) j * 2 ^ i + tk s 1 p i
  | 0 => by simp [tk]
  | j + 1 => by
    have ih := tk_low s p i j
    rw [← Nat.add_assoc]
    simp only [tk, if_true]
    rw [ih, ← Nat.add_assoc, Int.pow_add, Int.add_mul, Int.mul_assoc, Int.mul_comm ((2 : Int) ^ i)]
    omega
theorem tk_high (s : ByteArray) (p i : Nat) : ∀ j, tk s 2 p (i + j) = tk s 2 p i * 2 ^ j + tk s 2 (p + i) j
  | 0 => by simp [tk]
  | j + 1 => by
    have ih := tk_high s p i j
    rw [← Nat.add_assoc]
    simp only [tk, show ¬ ((2 : Int) = 1) by decide, if_false]
    rw [ih, two_pow_succ, Int.mul_add, ← Nat.add_assoc]
    have : tk s 2 p i * (2 * 2 ^ j) = 2 * (tk s 2 p i * 2 ^ j) := by rw [Int.mul_left_comm]
    omega

/-! ### The bit operations on small numbers -/

theorem ofInt_nat (n x : Nat) : BitVec.ofInt n (x : Int) = BitVec.ofNat n x := by
  apply BitVec.eq_of_toNat_eq
  simp
theorem iand_nat {x y : Nat} (hx : x < 2 ^ 63) (hy : y < 2 ^ 63) : iand .i64 (x : Int) (y : Int) = ((x &&& y : Nat) : Int) := by
  unfold iand
  rw [ofInt_nat, ofInt_nat]
  have h1 : (BitVec.ofNat IntKind.i64.bits x &&& BitVec.ofNat IntKind.i64.bits y).toNat = x &&& y := by
    rw [BitVec.toNat_and, BitVec.toNat_ofNat, BitVec.toNat_ofNat, Nat.mod_eq_of_lt (by simp [IntKind.bits]; omega), Nat.mod_eq_of_lt (by simp [IntKind.bits]; omega)]
  rw [h1]
  have h2 : x &&& y < 2 ^ 63 := Nat.and_lt_two_pow x hy
  exact i64_id (by omega)
theorem ior_nat {x y : Nat} (hx : x < 2 ^ 63) (hy : y < 2 ^ 63) : ior .i64 (x : Int) (y : Int) = ((x ||| y : Nat) : Int) := by
  unfold ior
  rw [ofInt_nat, ofInt_nat]
  have h1 : (BitVec.ofNat IntKind.i64.bits x ||| BitVec.ofNat IntKind.i64.bits y).toNat = x ||| y := by
    rw [BitVec.toNat_or, BitVec.toNat_ofNat, BitVec.toNat_ofNat, Nat.mod_eq_of_lt (by simp [IntKind.bits]; omega), Nat.mod_eq_of_lt (by simp [IntKind.bits]; omega)]
  rw [h1]
  have h2 : x ||| y < 2 ^ 63 := Nat.or_lt_two_pow hx hy
  exact i64_id (by omega)
theorem ior_u8_nat {x y : Nat} (hx : x < 2 ^ 8) (hy : y < 2 ^ 8) : ior .u8 (x : Int) (y : Int) = ((x ||| y : Nat) : Int) := by
  unfold ior
  rw [ofInt_nat, ofInt_nat]
  have h1 : (BitVec.ofNat IntKind.u8.bits x ||| BitVec.ofNat IntKind.u8.bits y).toNat = x ||| y := by
    rw [BitVec.toNat_or, BitVec.toNat_ofNat, BitVec.toNat_ofNat, Nat.mod_eq_of_lt (by simp [IntKind.bits]; omega), Nat.mod_eq_of_lt (by simp [IntKind.bits]; omega)]
  rw [h1]
  have h2 : x ||| y < 2 ^ 8 := Nat.or_lt_two_pow hx hy
  exact u8_id (by omega)
theorem iand_one {x : Int} (h0 : 0 ≤ x) (h1 : x < 9223372036854775808) : iand .i64 x 1 = x % 2 := by
  obtain ⟨n, rfl⟩ := Int.eq_ofNat_of_zero_le h0
  rw [show (1 : Int) = ((1 : Nat) : Int) from rfl, iand_nat (by omega) (by omega), Nat.and_one_is_mod]
  omega
/-- Or-ing in a bit that is not there yet. -/
theorem or_shift {x b i : Nat} (hx : x < 2 ^ i) : x ||| b * 2 ^ i = x + b * 2 ^ i := by
  rw [Nat.or_comm, ← Nat.shiftLeft_eq, ← Nat.shiftLeft_add_eq_or_of_lt hx, Nat.add_comm]
theorem ior_low {x b : Int} {i : Nat} (h0 : 0 ≤ x) (h1 : x < 2 ^ i) (hb : 0 ≤ b ∧ b ≤ 1) (hi : i ≤ 24) : ior .i64 x (b * 2 ^ i) = x + b * 2 ^ i := by
  obtain ⟨n, rfl⟩ := Int.eq_ofNat_of_zero_le h0
  obtain ⟨c, rfl⟩ := Int.eq_ofNat_of_zero_le hb.1
  have e : ((c : Int) * 2 ^ i) = ((c * 2 ^ i : Nat) : Int) := by simp
  have hn : n < 2 ^ i := by exact_mod_cast h1
  have hp' : 2 ^ i ≤ 2 ^ 24 := Nat.pow_le_pow_right (by decide) hi
  have h24 : (2 : Nat) ^ 24 = 16777216 := by decide
  have hc : c * 2 ^ i ≤ 1 * 2 ^ i := Nat.mul_le_mul_right _ (by omega)
  rw [e, ior_nat (by omega) (by omega), or_shift hn, Int.natCast_add]
theorem ior_high {x b : Int} (h0 : 0 ≤ x) (h1 : x < 16777216) (hb : 0 ≤ b ∧ b ≤ 1) : ior .i64 (x * 2) b = 2 * x + b := by
  obtain ⟨n, rfl⟩ := Int.eq_ofNat_of_zero_le h0
  obtain ⟨c, rfl⟩ := Int.eq_ofNat_of_zero_le hb.1
  have e : ((n : Int) * 2) = ((n * 2 : Nat) : Int) := by omega
  rw [e, ior_nat (by omega) (by omega), Nat.or_comm]
  have := or_shift (x := c) (b := n) (i := 1) (by omega)
  simp only [Nat.pow_one] at this
  rw [this]
  omega
theorem fdiv_pow {x : Int} {i : Nat} : Int.fdiv x (2 ^ i) = x / 2 ^ i := Int.fdiv_eq_ediv_of_nonneg x (Int.le_of_lt (two_pow_pos i))
theorem ediv_pow_bd {x : Int} {i : Nat} (h : 0 ≤ x) : 0 ≤ x / 2 ^ i ∧ x / 2 ^ i ≤ x :=
  ⟨Int.ediv_nonneg h (Int.le_of_lt (two_pow_pos i)), Int.ediv_le_self _ h⟩
end Bit
end Go.Proofs.YtpkadliieplblaaDoor
