/- Inflate: what a writer writes of a canonical code is read back; plain laws. Conditions: a code's lengths. -/
import Derived.Test.YtapgacggllbhiaaInF
import Derived.Test.YtapgacggllbhiaaBitWB
namespace Go.Proofs.Ytapgacggllbhiaa
namespace Inf
open Sh Bit
set_option linter.unusedVariables false
set_option linter.unusedSimpArgs false
set_option maxRecDepth 4000
set_option maxHeartbeats 1000000
abbrev WS := List UInt8 × Nat
/-- n bits of v, least significant first. -/
def lw (st : WS) (v n : Nat) : WS := putS 1 v n st n
/-- i of the n bits of c, most significant first. -/
def hw (st : WS) (c n : Nat) : Nat → WS
  | 0 => st
  | i + 1 => oneS 1 (hw st c n i) (c / 2 ^ (n - 1 - i) % 2)
/-- The code of a sign. -/
def cw (lens : List Int) (st : WS) (g : Nat) : WS := hw st (codeL lens g).toNat (lens.getD g 0).toNat (lens.getD g 0).toNat
section
variable {st : WS} {T : List UInt8}
theorem bit_le (x : Nat) : x % 2 ≤ 1 := by omega
theorem hw_ok (h : WOK 1 st) (c n : Nat) : ∀ i, WOK 1 (hw st c n i)
  | 0 => h
  | i + 1 => (hw_ok h c n i).one (bit_le _)
theorem hw_pos (h : WOK 1 st) (c n : Nat) : ∀ i, pos (hw st c n i) = pos st + i
  | 0 => rfl
  | i + 1 => by
    show pos (oneS 1 _ _) = _
    rw [pos_one (hw_ok h c n i), hw_pos h c n i, Nat.add_assoc]
theorem hw_len (st : WS) (c n : Nat) : ∀ i, (hw st c n i).1.length ≤ st.1.length + i
  | 0 => Nat.le_refl _
  | i + 1 => by
    have := hw_len st c n i
    have h2 := grow_len (hw st c n i)
    show (oneS 1 _ _).1.length ≤ _
    rw [oneS_len]
    omega
theorem hw_back (h : WOK 1 st) (c n : Nat) : ∀ i, Agree 1 (pos st + i) (hw st c n i).1 T → Agree 1 (pos st) st.1 T ∧ ∀ j, j < i → bt ⟨T.toArray⟩ 1 (pos st + j) = ((c / 2 ^ (n - 1 - j) % 2 : Nat) : Int)
  | 0, ha => ⟨ha, fun j hj => by omega⟩
  | i + 1, ha => by
    have hok := hw_ok h c n i
    have hp := hw_pos h c n i
    rw [← Nat.add_assoc, ← hp] at ha
    obtain ⟨h1, h2⟩ := Agree.one hok (bit_le _) ha
    rw [hp] at h1 h2
    obtain ⟨h3, h4⟩ := hw_back h c n i h1
    refine ⟨h3, fun j hj => ?_⟩
    by_cases hji : j = i
    · subst hji; rw [bt_bitN, h2]
    · exact h4 j (by omega)
theorem lw_ok (h : WOK 1 st) (v n : Nat) : WOK 1 (lw st v n) := h.put v n n
theorem lw_pos (h : WOK 1 st) (v n : Nat) : pos (lw st v n) = pos st + n := pos_put h v n n
theorem lw_len (st : WS) (v n : Nat) : (lw st v n).1.length ≤ st.1.length + n := putS_len 1 v n st n
theorem lw_back (h : WOK 1 st) {v n : Nat} (hv : v < 2 ^ n) (ha : Agree 1 (pos (lw st v n)) (lw st v n).1 T) : Agree 1 (pos st) st.1 T ∧ (pos st + n ≤ 8 * T.length → num ⟨T.toArray⟩ (pos st) n = .ok ((v : Int), pos st + n)) := by
  rw [lw_pos h] at ha
  obtain ⟨h1, h2⟩ := Agree.put h v n n ha
  refine ⟨h1, fun hT => ?_⟩
  unfold num
  rw [if_pos (by show pos st + n ≤ 8 * T.toArray.size; simpa using hT), tk_bits hv h2]
end
/-! ### Kraft's sum -/
theorem kS_fs {lens : List Int} : ∀ n, n + 1 ≤ 15 → kS lens lens.length (n + 1) = (fs (cn lens) (n + 1) + cn lens (n + 1)) * 2 ^ (15 - (n + 1))
  | 0, _ => by
    have e : cn lens 1 = (cnt lens 1 : Int) := rfl
    show (0 : Int) + (cntT lens 1 lens.length : Int) * 2 ^ (15 - 1) = (0 + cn lens 1) * _
    rw [e, Int.zero_add, Int.zero_add]
    rfl
  | n + 1, h => by
    have ih := kS_fs (lens := lens) n (by omega)
    have e : cn lens (n + 1 + 1) = (cnt lens (n + 1 + 1) : Int) := rfl
    have e1 : kS lens lens.length (n + 1 + 1) = kS lens lens.length (n + 1) + (cnt lens (n + 1 + 1) : Int) * 2 ^ (15 - (n + 1 + 1)) := rfl
    have e2 : fs (cn lens) (n + 1 + 1) = 2 * (fs (cn lens) (n + 1) + cn lens (n + 1)) := rfl
    have e3 : (2 : Int) ^ (15 - (n + 1)) = 2 * 2 ^ (15 - (n + 1 + 1)) := by rw [show 15 - (n + 1) = 15 - (n + 1 + 1) + 1 by omega, two_pow_succ]
    rw [e1, ih, e, e2, e3]
    generalize fs (cn lens) (n + 1) + cn lens (n + 1) = a
    rw [Int.add_mul, Int.mul_left_comm, Int.mul_assoc]
theorem kS_mono {lens : List Int} (i : Nat) : ∀ l d, kS lens i l ≤ kS lens i (l + d)
  | l, 0 => Int.le_refl _
  | l, d + 1 => by
    have h1 := kS_mono (lens := lens) i l d
    have h2 : kS lens i (l + (d + 1)) = kS lens i (l + d) + (cntT lens (l + d + 1) i : Int) * 2 ^ (15 - (l + d + 1)) := rfl
    have h3 : (0 : Int) ≤ (cntT lens (l + d + 1) i : Int) * 2 ^ (15 - (l + d + 1)) := Int.mul_nonneg (by omega) (Int.le_of_lt (two_pow_pos _))
    omega
theorem kr_used {lens : List Int} (hk : Lok lens) : ∀ i, kr lens i ≤ usedT lens i * 16384 ∧ 0 ≤ usedT lens i
  | 0 => ⟨by show (0 : Int) ≤ 0 * 16384; decide, Int.le_refl _⟩
  | i + 1 => by
    obtain ⟨h1, h2⟩ := kr_used hk i
    have hn := hk.nn i
    have u : usedT lens (i + 1) = if lens.getD i 0 ≠ 0 then usedT lens i + 1 else usedT lens i := rfl
    have k : kr lens (i + 1) = if 0 < lens.getD i 0 then kr lens i + 2 ^ (15 - (lens.getD i 0).toNat) else kr lens i := rfl
    by_cases h0 : lens.getD i 0 = 0
    · rw [if_neg (by omega)] at k
      rw [if_neg (fun hh => hh h0)] at u
      rw [k, u]
      exact ⟨h1, h2⟩
    · rw [if_pos (by omega)] at k
      rw [if_pos h0] at u
      have hp := two_pow_le (show 15 - (lens.getD i 0).toNat ≤ 14 by omega)
      have h14 : (2 : Int) ^ 14 = 16384 := by decide
      rw [k, u]
      omega
theorem kr_le {lens : List Int} (h : chk lens = 0) : kr lens lens.length ≤ 32768 := by
  have hk := chk_lok h
  rw [chk_rest hk] at h
  obtain ⟨h1, h2⟩ := kr_used hk lens.length
  split at h
  · rename_i hc
    rcases hc with hc | hc | ⟨hc, _⟩ <;> omega
  · cases h
/-- A code fits its length. -/
theorem code_fits {lens : List Int} (h : chk lens = 0) {n : Nat} (h1 : 1 ≤ n) (h15 : n ≤ 15) : fs (cn lens) n + cn lens n ≤ 2 ^ n := by
  have hk := chk_lok h
  obtain ⟨m, rfl⟩ : ∃ m, n = m + 1 := ⟨n - 1, by omega⟩
  have a := kS_fs (lens := lens) m h15
  have b := kS_mono (lens := lens) lens.length (m + 1) (15 - (m + 1))
  rw [show m + 1 + (15 - (m + 1)) = 15 by omega, kS_kr hk, a] at b
  have c := kr_le h
  have hp := two_pow_pos (15 - (m + 1))
  have e : (32768 : Int) = 2 ^ (m + 1) * 2 ^ (15 - (m + 1)) := by rw [← Int.pow_add, show m + 1 + (15 - (m + 1)) = 15 by omega]; decide
  exact Int.le_of_mul_le_mul_right (by omega) hp
theorem fs_nn {lens : List Int} (hk : Lok lens) (n : Nat) : 0 ≤ fs (cn lens) n := (fs_bd (fun n => cn_bd hk.len n) n).1
theorem fs_ge {lens : List Int} (hk : Lok lens) {m : Nat} (h1 : 1 ≤ m) : ∀ d, (fs (cn lens) m + cn lens m) * 2 ^ (d + 1) ≤ fs (cn lens) (m + (d + 1))
  | 0 => by
    obtain ⟨x, rfl⟩ : ∃ x, m = x + 1 := ⟨m - 1, by omega⟩
    show _ ≤ 2 * (fs (cn lens) (x + 1) + cn lens (x + 1))
    rw [Int.mul_comm]
    exact Int.le_refl _
  | d + 1 => by
    have ih := fs_ge hk h1 d
    have hc := (cn_bd hk.len (m + (d + 1))).1
    have e : fs (cn lens) (m + (d + 1 + 1)) = 2 * (fs (cn lens) (m + (d + 1)) + cn lens (m + (d + 1))) := by
      obtain ⟨x, rfl⟩ : ∃ x, m = x + 1 := ⟨m - 1, by omega⟩
      rw [show x + 1 + (d + 1 + 1) = (x + d + 1) + 2 by omega, show x + 1 + (d + 1) = x + d + 1 + 1 by omega]
      rfl
    rw [e, two_pow_succ, Int.mul_left_comm]
    omega
/-- What is known of a sign's code. -/
theorem code_of {lens : List Int} (h : chk lens = 0) {g n : Nat} (hg : g < lens.length) (hn : lens.getD g 0 = (n : Int)) (h0 : 0 < n) : 1 ≤ n ∧ n ≤ 15 ∧ n ≤ longest lens ∧
    ∃ c : Nat, (codeL lens g).toNat = c ∧ (c : Int) = codeL lens g ∧ (c : Int) = fs (cn lens) n + (cntT lens n g : Int) ∧ c < 2 ^ n := by
  have hk := chk_lok h
  have hnn := hk.nn g
  have h15 : n ≤ 15 := by omega
  have hl := lens_long (lens := lens) lens.length g hg
  have hf := fs_nn hk n
  have hx := idxs_at hn hg
  have hfit := code_fits h h0 h15
  have hc : codeL lens g = fs (cn lens) n + (cntT lens n g : Int) := by
    unfold codeL
    rw [if_pos (by omega), hn, Int.toNat_natCast]
  have hcn : cn lens n = (cnt lens n : Int) := by unfold cn; rw [if_neg (by omega)]
  refine ⟨h0, h15, by unfold longest; omega, (codeL lens g).toNat, rfl, by omega, by omega, ?_⟩
  have e : ((2 ^ n : Nat) : Int) = 2 ^ n := by simp
  omega
/-- The code's bits, most significant first, are read as the sign. -/
theorem sym_code {lens : List Int} (h : chk lens = 0) {s : ByteArray} {p g n c : Nat} (hg : g < lens.length) (hn : lens.getD g 0 = (n : Int)) (h0 : 0 < n) (hc : (codeL lens g).toNat = c)
    (hb : ∀ j, j < n → bt s 1 (p + j) = ((c / 2 ^ (n - 1 - j) % 2 : Nat) : Int)) (hs : p + n ≤ 8 * s.size) : sym lens s p = .ok (g, p + n) := by
  have hk := chk_lok h
  obtain ⟨_, h15, hll, c', hc', _, hcv, hlt⟩ := code_of h hg hn h0
  rw [hc] at hc'
  subst hc'
  have hx := idxs_at hn hg
  have key : ∀ d m : Nat, m + d = n → 1 ≤ m → ∀ f : Int, fs (cn lens) m = 2 * f → sgo lens s (longest lens + 1 - m) m ((c / 2 ^ (d + 1) : Nat) : Int) f (p + (m - 1)) = .ok (g, p + n) := fun d => by
    induction d with
    | zero =>
      intro m hm h1 f hf
      obtain rfl : m = n := by omega
      obtain ⟨k, hk'⟩ : ∃ k, longest lens + 1 - m = k + 1 := ⟨longest lens - m, by omega⟩
      rw [hk']
      unfold sgo
      have hbm := hb (m - 1) (by omega)
      rw [show m - 1 - (m - 1) = 0 by omega, Nat.pow_zero, Nat.div_one] at hbm
      rw [if_neg (by omega), hbm, show 0 + 1 = 1 by rfl, Nat.pow_one]
      have e : 2 * ((c / 2 : Nat) : Int) + ((c % 2 : Nat) : Int) - 2 * f = (cntT lens m g : Int) := by omega
      rw [e, if_pos (by omega), Int.toNat_natCast, hx.1, show p + (m - 1) + 1 = p + m by omega]
    | succ d ih =>
      intro m hm h1 f hf
      obtain ⟨k, hk'⟩ : ∃ k, longest lens + 1 - m = k + 1 := ⟨longest lens - m, by omega⟩
      have hcn : cn lens m = (cnt lens m : Int) := by unfold cn; rw [if_neg (by omega)]
      have hbm := hb (m - 1) (by omega)
      rw [show n - 1 - (m - 1) = d + 1 by omega] at hbm
      have hge := fs_ge hk h1 d
      rw [show m + (d + 1) = n by omega] at hge
      have hfn := fs_nn hk m
      have hv : 2 * ((c / 2 ^ (d + 1 + 1) : Nat) : Int) + ((c / 2 ^ (d + 1) % 2 : Nat) : Int) = ((c / 2 ^ (d + 1) : Nat) : Int) := by
        have : c / 2 ^ (d + 1 + 1) = c / 2 ^ (d + 1) / 2 := by rw [Nat.pow_succ 2 (d + 1), ← Nat.div_div_eq_div_mul]
        rw [this]
        omega
      have hle : fs (cn lens) m + cn lens m ≤ ((c / 2 ^ (d + 1) : Nat) : Int) := by
        obtain ⟨z, hz⟩ := Int.eq_ofNat_of_zero_le (show 0 ≤ fs (cn lens) m + cn lens m by rw [hcn]; omega)
        rw [hz] at hge ⊢
        have e2 : ((2 ^ (d + 1) : Nat) : Int) = 2 ^ (d + 1) := by simp
        have : z * 2 ^ (d + 1) ≤ c := by
          have h3 : ((z * 2 ^ (d + 1) : Nat) : Int) = (z : Int) * 2 ^ (d + 1) := by simp
          omega
        have := (Nat.le_div_iff_mul_le (Nat.pow_pos (by decide))).2 this
        omega
      rw [hk']
      unfold sgo
      rw [if_neg (by omega), hbm, hv, if_neg (by rw [hcn] at hle; omega)]
      have := ih (m + 1) (by omega) (by omega) (2 * f + (cnt lens m : Int)) (by
        obtain ⟨x, rfl⟩ : ∃ x, m = x + 1 := ⟨m - 1, by omega⟩
        show 2 * (fs (cn lens) (x + 1) + cn lens (x + 1)) = _
        rw [hf, hcn])
      rw [show longest lens + 1 - (m + 1) = k by omega, show p + (m + 1 - 1) = p + (m - 1) + 1 by omega] at this
      exact this
  have := key (n - 1) 1 (by omega) (Nat.le_refl _) 0 rfl
  rw [show n - 1 + 1 = n by omega, Nat.div_eq_of_lt hlt, Nat.sub_self, Nat.add_zero, Nat.add_sub_cancel] at this
  exact this
section
variable {st : WS} {T : List UInt8} {lens : List Int}
/-- A sign that is written is read. -/
theorem cw_back (h : chk lens = 0) (hok : WOK 1 st) {g n : Nat} (hg : g < lens.length) (hn : lens.getD g 0 = (n : Int)) (h0 : 0 < n) (ha : Agree 1 (pos (cw lens st g)) (cw lens st g).1 T) :
    pos (cw lens st g) = pos st + n ∧ Agree 1 (pos st) st.1 T ∧ (pos st + n ≤ 8 * T.length → sym lens ⟨T.toArray⟩ (pos st) = .ok (g, pos st + n)) := by
  have e : cw lens st g = hw st (codeL lens g).toNat n n := by unfold cw; rw [hn, Int.toNat_natCast]
  rw [e] at ha ⊢
  rw [hw_pos hok] at ha ⊢
  obtain ⟨h1, h2⟩ := hw_back hok _ _ _ ha
  exact ⟨rfl, h1, fun hT => sym_code h hg hn h0 rfl h2 (by show _ ≤ 8 * T.toArray.size; simpa using hT)⟩
theorem cw_ok (hok : WOK 1 st) (g : Nat) : WOK 1 (cw lens st g) := hw_ok hok _ _ _
theorem cw_len (hk : Lok lens) (g : Nat) : (cw lens st g).1.length ≤ st.1.length + 15 := by
  have := hw_len st (codeL lens g).toNat (lens.getD g 0).toNat (lens.getD g 0).toNat
  have h2 := hk.nn g
  unfold cw
  omega
end
end Inf
end Go.Proofs.Ytapgacggllbhiaa
