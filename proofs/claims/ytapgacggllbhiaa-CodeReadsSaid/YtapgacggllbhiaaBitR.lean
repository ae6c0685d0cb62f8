/- What the readers of package bit and of its reference do, call by call. Conditions: the reader is not nil, its place lies in its string, the string has at most a million bytes. -/
import Derived.Test.YtapgacggllbhiaaBitM
import Derived.Test.YtapgacggllbhiaaFnBit
namespace Go.Proofs.Ytapgacggllbhiaa
namespace Bit
open Sh
set_option linter.unusedVariables false

/-- A reader of package bit: bit p of s comes next, the order is 'way'. -/
def RdB (w : World) (b : Nat) (s : ByteArray) (p : Nat) (way : Int) : Prop :=
  Blk w b #[.int .i64 way, .int .i64 ((p % 8 : Nat) : Int), .string s, .int .i64 ((p / 8 : Nat) : Int)] 71
abbrev at0 (b : Nat) : Option Addr := some ⟨b, 0, none⟩

section
variable {w : World} {b : Nat} {s : ByteArray} {p : Nat} {way : Int}

theorem c_place (h : RdB w b s p way) (w' : Int) : C57 (at0 b) w' w fun x w1 => x = (if w' = 1 then ((p % 8 : Nat) : Int) else 7 - ((p % 8 : Nat) : Int)) ∧ w1 = w := by
  refine T57 _ _ _ _ ?_
  unfold S57
  by_cases hw : w' = 1
  · simp only [hw, beq_self_eq_true, Br_true]
    exact Nn.of (Ld.of h rfl ⟨rfl, trivial⟩)
  · simp only [hw, if_false, beq_eq_false_iff_ne.2 hw, Br_false]
    exact Nn.of (Ld.of h rfl ⟨i64_id (by omega), trivial⟩)

theorem c_other (h : RdB w b s p way) (w' : Int) : C51 (at0 b) w' w fun x w1 => x = (way != 0 && way != w') ∧ w1 = w := by
  refine T51 _ _ _ _ ?_
  unfold S51
  refine Nn.of (Ld.of h rfl (Br_of (fun e => ?_) fun e => ?_))
  · exact Nn.of (Ld.of h rfl ⟨by simp [e], rfl⟩)
  · exact ⟨by simp [e], rfl⟩

theorem c_left (h : RdB w b s p way) (hp : p ≤ 8 * s.size) (hs : s.size ≤ 1000000) : C23 (at0 b) w fun x w1 => x = ((8 * s.size - p : Nat) : Int) ∧ w1 = w.drew := by
  refine T23 _ _ _ ?_
  unfold S23
  refine Nn.of (Ld.of h.drew rfl (Nn.of (Ld.of h.drew rfl (Nn.of (Ld.of h.drew rfl ⟨?_, rfl⟩)))))
  simp (disch := omega) only [i64_id]
  omega
theorem bt_of (s : ByteArray) (w' : Int) (p : Nat) : iand .i64 (Int.fdiv (IntKind.i64.wrap (bAt s ((p / 8 : Nat) : Int))) (2 ^ min (if w' = 1 then ((p % 8 : Nat) : Int) else 7 - ((p % 8 : Nat) : Int)).toNat 64)) 1 = bt s w' p := by
  have hb := byt_bd s (p / 8)
  rw [bAt_byt, i64_id (by omega), fdiv_pow]
  have hd := @ediv_pow_bd (byt s (p / 8)) (min (if w' = 1 then ((p % 8 : Nat) : Int) else 7 - ((p % 8 : Nat) : Int)).toNat 64) hb.1
  rw [iand_one hd.1 (by omega)]
  unfold bt
  split
  · rw [show min ((p % 8 : Nat) : Int).toNat 64 = p % 8 by omega]
  · rw [show min (7 - ((p % 8 : Nat) : Int)).toNat 64 = 7 - p % 8 by omega]

theorem c_one (h : RdB w b s p way) (hp : p < 8 * s.size) (hs : s.size ≤ 1000000) (w' : Int) :
    C52 (at0 b) w' w fun x w1 => x = bt s w' p ∧ RdB w1 b s (p + 1) way ∧ Ext (· = b) w w1 := by
  refine T52 _ _ _ _ ?_
  unfold S52
  have hS : ∀ w1, w1 = w.drew → RdB w1 b s p way := fun w1 e => e ▸ h.drew
  refine ⟨fun w1 => w1 = w.drew, rfl, Nn.of (LdS.of hS rfl (Nn.of (LdS.of hS rfl ⟨by omega, by omega, Nn.of ((c_place h.drew w').mono ?_)⟩)))⟩
  rintro x w1 ⟨rfl, rfl⟩
  rw [bt_of]
  have H : Hx w (· = b) w.drew _ := (Hx.one h).drew
  refine ⟨rfl, by split <;> omega, Nn.of (H.ld 0 rfl rfl (Nn.of (H.st 0 rfl (by simp) (.inl rfl) fun w2 H => Nn.of (H.ld 0 rfl rfl (Br_of (fun e => ?_) fun e => ?_)))))⟩
  · rw [i64_id (by omega)] at e
    have e : ((p % 8 : Nat) : Int) + 1 = 8 := by simpa using e
    refine Nn.of (H.st 0 rfl (by simp) (.inl rfl) fun w3 H => Nn.of (H.ld 0 rfl rfl (Nn.of (H.st 0 rfl (by simp) (.inl rfl) fun w4 H => ⟨rfl, ?_, H.ext⟩))))
    have := H.get 0 rfl
    unfold RdB
    rw [show (p + 1) % 8 = 0 by omega, show (p + 1) / 8 = p / 8 + 1 by omega]
    rw [i64_id (n := ((p / 8 : Nat) : Int) + 1) (by omega)] at this
    exact this
  · rw [i64_id (by omega)] at e
    have e : ¬ ((p % 8 : Nat) : Int) + 1 = 8 := by simpa using e
    refine ⟨rfl, ?_, H.ext⟩
    have := H.get 0 rfl
    unfold RdB
    rw [show (p + 1) % 8 = p % 8 + 1 by omega, show (p + 1) / 8 = p / 8 by omega]
    rw [i64_id (n := ((p % 8 : Nat) : Int) + 1) (by omega)] at this
    exact this

/-- What Low and High answer: the value, the error, the new place, the new order. -/
def tkR (s : ByteArray) (p : Nat) (way n w' : Int) : Int × Int × Nat × Int :=
  if n < 0 ∨ 24 < n ∨ (way ≠ 0 ∧ way ≠ w') then (0, 1, p, way)
  else if ((8 * s.size - p : Nat) : Int) < n then (0, 4, p, way)
  else (tk s w' p n.toNat, 0, p + n.toNat, if 0 < n then w' else way)
theorem tkR_arg {n w' : Int} (h : n < 0 ∨ 24 < n ∨ (way ≠ 0 ∧ way ≠ w')) : tkR s p way n w' = (0, 1, p, way) := if_pos h
theorem tkR_end {n w' : Int} (h : ¬ (n < 0 ∨ 24 < n ∨ (way ≠ 0 ∧ way ≠ w'))) (h2 : ((8 * s.size - p : Nat) : Int) < n) : tkR s p way n w' = (0, 4, p, way) := by
  unfold tkR; rw [if_neg h, if_pos h2]
theorem tkR_ok {n w' : Int} (h : ¬ (n < 0 ∨ 24 < n ∨ (way ≠ 0 ∧ way ≠ w'))) (h2 : ¬ ((8 * s.size - p : Nat) : Int) < n) :
    tkR s p way n w' = (tk s w' p n.toNat, 0, p + n.toNat, if 0 < n then w' else way) := by
  unfold tkR; rw [if_neg h, if_neg h2]
theorem tkR_le {n w' : Int} (hp : p ≤ 8 * s.size) : (tkR s p way n w').2.2.1 ≤ 8 * s.size := by
  unfold tkR
  split
  · exact hp
  · split
    · exact hp
    · dsimp only; omega

theorem c_take (h : RdB w b s p way) (hp : p ≤ 8 * s.size) (hs : s.size ≤ 1000000) (n w' : Int) (hw' : w' = 1 ∨ w' = 2) :
    C45 (at0 b) n w' w fun v e w1 => v = (tkR s p way n w').1 ∧ e = (tkR s p way n w').2.1 ∧ RdB w1 b s (tkR s p way n w').2.2.1 (tkR s p way n w').2.2.2 ∧ Ext (· = b) w w1 := by
  refine T45 _ _ _ _ _ ?_
  unfold S45
  refine Br_of (fun e => ?_) fun _ => ?_
  · cases e
  refine Br_of (fun e => ?_) fun e1 => Br_of (fun e => ?_) fun e2 => Nn.of ((c_other h w').mono ?_)
  · rw [tkR_arg (.inl (by simpa using e))]; exact ⟨rfl, rfl, h, Ext.refl _ _⟩
  · rw [tkR_arg (.inr (.inl (by simpa using e)))]; exact ⟨rfl, rfl, h, Ext.refl _ _⟩
  rintro x w1 ⟨rfl, rfl⟩
  refine Br_of (fun e => ?_) fun e3 => ?_
  · rw [tkR_arg (.inr (.inr (by simpa using e)))]; exact ⟨rfl, rfl, h, Ext.refl _ _⟩
  have h0 : ¬ n < 0 := by simpa using e1
  have h24 : n ≤ 24 := by simpa using e2
  have hw : ¬ (way ≠ 0 ∧ way ≠ w') := by simpa using e3
  have hno : ¬ (n < 0 ∨ 24 < n ∨ (way ≠ 0 ∧ way ≠ w')) := by omega
  refine (c_left h hp hs).mono ?_
  rintro x w2 ⟨rfl, rfl⟩
  refine Br_of (fun e => ?_) fun e4 => ?_
  · rw [tkR_end hno (by simpa using e)]; exact ⟨rfl, rfl, h.drew, (Ext.refl _ _).drew⟩
  have hn : n ≤ ((8 * s.size - p : Nat) : Int) := by simpa using e4
  rw [tkR_ok hno (by omega)]
  obtain ⟨m, rfl⟩ := Int.eq_ofNat_of_zero_le (show 0 ≤ n by omega)
  rw [Int.toNat_natCast]
  refine ⟨fun k st w3 => ∃ i : Nat, i ≤ m ∧ k = m - i ∧ st = (tk s w' p i, (i : Int)) ∧ RdB w3 b s (p + i) way ∧ Ext (· = b) w1 w3, m, ⟨0, by omega, by omega, rfl, h.drew, (Ext.refl _ _).drew⟩, ?_⟩
  rintro k st w3 ⟨i, hi, rfl, rfl, hr, hx⟩
  unfold S45L1
  have hb := tk_bd s w' p i
  have hp24 := two_pow_24 (show i ≤ 24 by omega)
  refine Br_of (fun e => ?_) fun e => ?_
  · have hlt : i < m := by simpa using e
    refine (c_one hr (by omega) hs w').mono ?_
    rintro x w4 ⟨rfl, hr', hx'⟩
    have hbb := bt_bd s w' (p + i)
    have h2 : m - (i + 1) < m - i := by omega
    dsimp only
    rw [i64_id (n := (i : Int) + 1) (by omega)]
    rcases hw' with rfl | rfl
    · simp only [beq_self_eq_true, Br_true]
      have h3 : bt s 1 (p + i) * 2 ^ i ≤ 1 * 2 ^ i := Int.mul_le_mul_of_nonneg_right hbb.2 (Int.le_of_lt (two_pow_pos i))
      have h4 : 0 ≤ bt s 1 (p + i) * 2 ^ i := Int.mul_nonneg hbb.1 (Int.le_of_lt (two_pow_pos i))
      refine ⟨by omega, _, h2, i + 1, by omega, rfl, ?_, hr', hx.tr hx'⟩
      rw [show min ((i : Int)).toNat 64 = i by omega, i64_id (by omega), ior_low hb.1 hb.2 hbb (by omega)]
      simp [tk]
    · simp only [show ((2 : Int) == 1) = false by rfl, Br_false]
      refine ⟨_, h2, i + 1, by omega, rfl, ?_, hr', hx.tr hx'⟩
      rw [show tk s 2 p i * 2 ^ 1 = tk s 2 p i * 2 by simp, i64_id (by omega), ior_high hb.1 (by omega) hbb]
      simp [tk]
  · have hge : i = m := by
      have : ¬ (i : Int) < m := by simpa using e
      omega
    subst hge
    refine Br_of (fun e => ?_) fun e => ?_
    · have hpos : (0 : Int) < i := by simpa using e
      rw [if_pos hpos]
      refine Nn.of ((Hx.one (F := (· = b)) hr).st 0 rfl (by simp) (.inl rfl) fun w5 H => ⟨rfl, rfl, H.get 0 rfl, hx.tr H.ext⟩)
    · have hz : ¬ (0 : Int) < i := by simpa using e
      rw [if_neg hz]
      exact ⟨rfl, rfl, hr, hx⟩

theorem c_low (h : RdB w b s p way) (hp : p ≤ 8 * s.size) (hs : s.size ≤ 1000000) (n : Int) :
    C38 (at0 b) n w fun v e w1 => v = (tkR s p way n 1).1 ∧ e = (tkR s p way n 1).2.1 ∧ RdB w1 b s (tkR s p way n 1).2.2.1 (tkR s p way n 1).2.2.2 ∧ Ext (· = b) w w1 :=
  T38 _ _ _ _ (c_take h hp hs n 1 (.inl rfl))
theorem c_from (w : World) (s : ByteArray) : C20 s w fun r w1 => r = at0 w.heap.size ∧ RdB w1 w.heap.size s 0 0 ∧ Ext (fun _ => False) w w1 := by
  refine T20 _ _ _ ?_
  unfold S20
  exact (Hx.start w (fun _ => False)).nw fun w2 H => ⟨rfl, H.get 0 rfl, H.ext⟩
/-- What Raw answers. -/
def rawR (s : ByteArray) (p : Nat) (n : Int) : ByteArray × Int × Nat :=
  if n < 0 ∨ p % 8 ≠ 0 then (⟨#[]⟩, 1, p)
  else if ((s.size - p / 8 : Nat) : Int) < n then (⟨#[]⟩, 4, p)
  else (s.extract (p / 8) (p / 8 + n.toNat), 0, p + 8 * n.toNat)
theorem rawR_arg {n : Int} (h : n < 0 ∨ p % 8 ≠ 0) : rawR s p n = (⟨#[]⟩, 1, p) := if_pos h
theorem rawR_end {n : Int} (h : ¬ (n < 0 ∨ p % 8 ≠ 0)) (h2 : ((s.size - p / 8 : Nat) : Int) < n) : rawR s p n = (⟨#[]⟩, 4, p) := by
  unfold rawR; rw [if_neg h, if_pos h2]
theorem rawR_ok {n : Int} (h : ¬ (n < 0 ∨ p % 8 ≠ 0)) (h2 : ¬ ((s.size - p / 8 : Nat) : Int) < n) : rawR s p n = (s.extract (p / 8) (p / 8 + n.toNat), 0, p + 8 * n.toNat) := by
  unfold rawR; rw [if_neg h, if_neg h2]
theorem rawR_le {n : Int} (hp : p ≤ 8 * s.size) : (rawR s p n).2.2 ≤ 8 * s.size := by
  unfold rawR
  split
  · exact hp
  · split
    · exact hp
    · dsimp only; omega
/-! ### The reference's reader -/

theorem bt_low (s : ByteArray) (p : Nat) (hp : p ≤ 8000000) : Int.tmod (Int.fdiv (IntKind.i64.wrap (bAt s (IntKind.i64.wrap (Int.tdiv (p : Int) 8)))) (2 ^ (min (Int.tmod (p : Int) 8).toNat 64))) 2 = bt s 1 p := by
  have hb := byt_bd s (p / 8)
  have hm : Int.tmod (p : Int) 8 = ((p % 8 : Nat) : Int) := by rw [tmod_id (by omega)]; rfl
  have hd : IntKind.i64.wrap (Int.tdiv (p : Int) 8) = ((p / 8 : Nat) : Int) := by rw [tdiv_id (by omega), i64_id (by omega)]; rfl
  rw [hm, hd, bAt_byt, i64_id (by omega), fdiv_pow, tmod_id (ediv_pow_bd hb.1).1, show min ((p % 8 : Nat) : Int).toNat 64 = p % 8 by omega]
  rfl
theorem bt_high (s : ByteArray) (p : Nat) (hp : p ≤ 8000000) : Int.tmod (Int.fdiv (IntKind.i64.wrap (bAt s (IntKind.i64.wrap (Int.tdiv (p : Int) 8)))) (2 ^ (min (IntKind.i64.wrap (7 - (Int.tmod (p : Int) 8))).toNat 64))) 2 = bt s 2 p := by
  have hb := byt_bd s (p / 8)
  have hm : Int.tmod (p : Int) 8 = ((p % 8 : Nat) : Int) := by rw [tmod_id (by omega)]; rfl
  have hd : IntKind.i64.wrap (Int.tdiv (p : Int) 8) = ((p / 8 : Nat) : Int) := by rw [tdiv_id (by omega), i64_id (by omega)]; rfl
  rw [hm, hd, bAt_byt, i64_id (n := byt s (p / 8)) (by omega), fdiv_pow, tmod_id (ediv_pow_bd hb.1).1, i64_id (by omega), show min (7 - ((p % 8 : Nat) : Int)).toNat 64 = 7 - p % 8 by omega]
  rfl

end
end Bit
end Go.Proofs.Ytapgacggllbhiaa
