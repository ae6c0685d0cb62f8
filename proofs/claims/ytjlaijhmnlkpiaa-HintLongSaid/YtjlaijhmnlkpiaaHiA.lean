/- Hints: rows of them, cells, Need, checks, spreads; both sides. Conditions: sizes. -/
import Derived.Test.YtjlaijhmnlkpiaaEl
import Derived.Test.YtjlaijhmnlkpiaaRd
import Derived.Test.YtjlaijhmnlkpiaaFnHint
namespace Go.Proofs.Ytjlaijhmnlkpiaa
namespace Hint
open Sh
set_option linter.unusedVariables false
set_option linter.unusedSimpArgs false
set_option maxRecDepth 4000
set_option maxHeartbeats 1000000
theorem Br.t {b : Bool} {A B : Prop} (h : b = true) (k : A) : Br b A B := by rw [h]; exact k
theorem Br.f {b : Bool} {A B : Prop} (h : b = false) (k : B) : Br b A B := by rw [h]; exact k
abbrev Hi := Int × Int × Int
def hrow (h : Hi) : List Value := [.int .i64 h.1, .int .i64 h.2.1, .int .i64 h.2.2]
theorem elHi : El Try.prog 59 70 3 24 (.agg (hrow (0, 0, 0)).toArray) := ⟨by kernel_rfl, by kernel_rfl, by kernel_rfl, by kernel_rfl, rfl⟩
theorem h_len (L : List Hi) : (L.flatMap hrow).length = L.length * 3 := by
  induction L with
  | nil => rfl
  | cons o L ih => rw [List.flatMap_cons, List.length_append, ih, List.length_cons]; simp [hrow]; omega
theorem h_get {L : List Hi} {i j : Nat} {o : Hi} (hi : L[i]? = some o) (hj : j < 3) : (L.flatMap hrow)[i * 3 + j]? = (hrow o)[j]? := by
  induction L generalizing i with
  | nil => cases hi
  | cons p L ih =>
    rw [List.flatMap_cons]
    cases i with
    | zero =>
      cases hi
      rw [Nat.zero_mul, Nat.zero_add, List.getElem?_append_left (by simp [hrow]; omega)]
    | succ i =>
      rw [List.getElem?_append_right (by simp [hrow]; omega), ← ih (by simpa using hi)]
      congr 1
      simp only [hrow, List.length_cons, List.length_nil]
      omega
/-- The hints of a slice. -/
def HV (w : World) (s : Slc) (L : List Hi) : Prop := s.len = L.length ∧ VRow w s 3 (L.flatMap hrow)
theorem HV.keep {w w' : World} {s : Slc} {L : List Hi} (h : HV w s L) (he : Ext (fun _ => False) w w') : HV w' s L := ⟨h.1, h.2.keep he⟩
theorem HV.drew {w : World} {s : Slc} {L : List Hi} (h : HV w s L) : HV w.drew s L := h.keep (Ext.refl _ _).drew
theorem HV.get {w : World} {s : Slc} {L : List Hi} (h : HV w s L) {i : Nat} {o : Hi} (hi : L[i]? = some o) : ∃ a, s.p = some a ∧ w.cell? (a.add (i * 3)) = some (.int .i64 o.1) ∧ w.cell? ((a.add (i * 3)).add 1) = some (.int .i64 o.2.1) ∧ w.cell? ((a.add (i * 3)).add 2) = some (.int .i64 o.2.2) := by
  have g : ∀ j v, j < 3 → (hrow o)[j]? = some v → ∃ a, s.p = some a ∧ w.cell? ((a.add (i * 3)).add j) = some v := fun j v hj hv => by
    obtain ⟨a, ha, hc⟩ := h.2.2 (i * 3 + j) v (by rw [h_get hi hj]; exact hv)
    exact ⟨a, ha, by rw [add_add']; exact hc⟩
  obtain ⟨a, ha, c0⟩ := g 0 _ (by omega) rfl
  obtain ⟨a1, ha1, c1⟩ := g 1 _ (by omega) rfl
  obtain ⟨a2, ha2, c2⟩ := g 2 _ (by omega) rfl
  rw [ha] at ha1 ha2
  cases ha1; cases ha2
  exact ⟨a, ha, by rw [add_add'] at c0; exact c0, c1, c2⟩
/-- Column c of a hint. -/
def col (h : Hi) (c : Int) : Int := if c = 0 then h.1 else if c = 1 then h.2.1 else h.2.2
def cellA (a : Addr) (c : Int) : Addr := if c = 0 then a else if c = 1 then a.add 1 else a.add 2
theorem HV.col {w : World} {s : Slc} {L : List Hi} (h : HV w s L) {i : Nat} {o : Hi} (hi : L[i]? = some o) (c : Int) : ∃ a, s.p = some a ∧ w.cell? (cellA (a.add (i * 3)) c) = some (.int .i64 (Hint.col o c)) := by
  obtain ⟨a, ha, h0, h1, h2⟩ := h.get hi
  refine ⟨a, ha, ?_⟩
  unfold cellA Hint.col
  split
  · exact h0
  · split
    · exact h1
    · exact h2
/-- The number of bits. -/
def need (n : Int) : Int := if n ≤ 0 then 0 else ((n.toNat.log2 + 1 : Nat) : Int)
theorem need_half {x : Int} (h : 1 ≤ x) : need x = need (x / 2) + 1 := by
  unfold need
  by_cases h2 : x = 1
  · subst h2; decide
  · rw [if_neg (by omega), if_neg (by omega)]
    have e : (x / 2).toNat = x.toNat / 2 := by omega
    have h3 : x.toNat.log2 = (x.toNat / 2).log2 + 1 := by
      rw [Nat.log2_def x.toNat, if_pos (by omega)]
    rw [e, h3]
    omega
theorem need_shift : ∀ (k : Nat) {x : Int}, 1 ≤ x / 2 ^ k → need x = need (x / 2 ^ k) + k
  | 0, x, h => by simp
  | k + 1, x, h => by
    have e : x / 2 ^ (k + 1) = x / 2 ^ k / 2 := by rw [Int.pow_succ, Int.ediv_ediv_of_nonneg (Int.le_of_lt (Int.pow_pos (by decide)))]
    have h1 : 1 ≤ x / 2 ^ k := by rw [e] at h; omega
    rw [need_shift k h1, e, need_half h1]
    omega
theorem need_nn (n : Int) : 0 ≤ need n := by unfold need; split <;> omega
theorem need_le {n : Int} {k : Nat} (h : n < 2 ^ k) : need n ≤ k := by
  unfold need
  split
  · omega
  · have h1 : n.toNat < 2 ^ k := by
      have : ((2 ^ k : Nat) : Int) = 2 ^ k := by simp
      omega
    have := (Nat.log2_lt (by omega)).2 h1
    omega
theorem len8 : ∀ x : Fin 256, bAt (⟨#[0, 1, 2, 2, 3, 3, 3, 3, 4, 4, 4, 4, 4, 4, 4, 4, 5, 5, 5, 5, 5, 5, 5, 5, 5, 5, 5, 5, 5, 5, 5, 5, 6, 6, 6, 6, 6, 6, 6, 6, 6, 6, 6, 6, 6, 6, 6, 6, 6, 6, 6, 6, 6, 6, 6, 6, 6, 6, 6, 6, 6, 6, 6, 6, 7, 7, 7, 7, 7, 7, 7, 7, 7, 7, 7, 7, 7, 7, 7, 7, 7, 7, 7, 7, 7, 7, 7, 7, 7, 7, 7, 7, 7, 7, 7, 7, 7, 7, 7, 7, 7, 7, 7, 7, 7, 7, 7, 7, 7, 7, 7, 7, 7, 7, 7, 7, 7, 7, 7, 7, 7, 7, 7, 7, 7, 7, 7, 7, 8, 8, 8, 8, 8, 8, 8, 8, 8, 8, 8, 8, 8, 8, 8, 8, 8, 8, 8, 8, 8, 8, 8, 8, 8, 8, 8, 8, 8, 8, 8, 8, 8, 8, 8, 8, 8, 8, 8, 8, 8, 8, 8, 8, 8, 8, 8, 8, 8, 8, 8, 8, 8, 8, 8, 8, 8, 8, 8, 8, 8, 8, 8, 8, 8, 8, 8, 8, 8, 8, 8, 8, 8, 8, 8, 8, 8, 8, 8, 8, 8, 8, 8, 8, 8, 8, 8, 8, 8, 8, 8, 8, 8, 8, 8, 8, 8, 8, 8, 8, 8, 8, 8, 8, 8, 8, 8, 8, 8, 8, 8, 8, 8, 8, 8, 8, 8, 8, 8, 8, 8, 8, 8, 8, 8, 8, 8, 8]⟩ : ByteArray) (x.val : Int) = need (x.val : Int) := by decide
theorem len8_of {x : Int} (h : 0 ≤ x ∧ x < 256) : bAt (⟨#[0, 1, 2, 2, 3, 3, 3, 3, 4, 4, 4, 4, 4, 4, 4, 4, 5, 5, 5, 5, 5, 5, 5, 5, 5, 5, 5, 5, 5, 5, 5, 5, 6, 6, 6, 6, 6, 6, 6, 6, 6, 6, 6, 6, 6, 6, 6, 6, 6, 6, 6, 6, 6, 6, 6, 6, 6, 6, 6, 6, 6, 6, 6, 6, 7, 7, 7, 7, 7, 7, 7, 7, 7, 7, 7, 7, 7, 7, 7, 7, 7, 7, 7, 7, 7, 7, 7, 7, 7, 7, 7, 7, 7, 7, 7, 7, 7, 7, 7, 7, 7, 7, 7, 7, 7, 7, 7, 7, 7, 7, 7, 7, 7, 7, 7, 7, 7, 7, 7, 7, 7, 7, 7, 7, 7, 7, 7, 7, 8, 8, 8, 8, 8, 8, 8, 8, 8, 8, 8, 8, 8, 8, 8, 8, 8, 8, 8, 8, 8, 8, 8, 8, 8, 8, 8, 8, 8, 8, 8, 8, 8, 8, 8, 8, 8, 8, 8, 8, 8, 8, 8, 8, 8, 8, 8, 8, 8, 8, 8, 8, 8, 8, 8, 8, 8, 8, 8, 8, 8, 8, 8, 8, 8, 8, 8, 8, 8, 8, 8, 8, 8, 8, 8, 8, 8, 8, 8, 8, 8, 8, 8, 8, 8, 8, 8, 8, 8, 8, 8, 8, 8, 8, 8, 8, 8, 8, 8, 8, 8, 8, 8, 8, 8, 8, 8, 8, 8, 8, 8, 8, 8, 8, 8, 8, 8, 8, 8, 8, 8, 8, 8, 8, 8, 8, 8, 8]⟩ : ByteArray) x = need x := by
  have := len8 ⟨x.toNat, by omega⟩
  have e : ((x.toNat : Nat) : Int) = x := by omega
  simp only [e] at this
  exact this
attribute [local irreducible] Ld St Nw Nn Lt LdS
theorem c_cell (a : Addr) (c : Int) (w : World) : C68 (some a) c w fun r w1 => r = some (cellA a c) ∧ w1 = w := by
  refine T68 _ _ _ _ ?_
  unfold S68 cellA
  refine Br.eq (fun h => Nn.of ?_) fun h => Br.eq (fun h2 => Nn.of ?_) fun h2 => Nn.of ?_
  · rw [if_pos h]; exact ⟨rfl, rfl⟩
  · rw [if_neg h, if_pos h2]; exact ⟨rfl, rfl⟩
  · rw [if_neg h, if_neg h2]; exact ⟨rfl, rfl⟩
def most (c : Int) : Int := if c = 0 then 8191 else 1048576
theorem c_most (c : Int) (w : World) : C91 c w fun r w1 => r = most c ∧ w1 = w := by
  refine T91 _ _ _ ?_
  unfold S91 most
  refine Br.eq (fun h => ?_) fun h => ?_
  · rw [if_pos h]; exact ⟨rfl, rfl⟩
  · rw [if_neg h]; exact ⟨rfl, rfl⟩
theorem c_len64 {x : Int} (hx : 0 ≤ x ∧ x ≤ 18446744073709551615) (w : World) : C99 x w fun r w1 => r = need x ∧ w1 = w := by
  refine T99 _ _ _ ?_
  unfold S99
  have key : ∀ (y k : Int), 0 ≤ y → y < 4294967296 → 0 ≤ k → k ≤ 32 → need x = need y + k → S99J1 (fun r w1 => r = need x ∧ w1 = w) (y, k) w := by
    intro y k hy hy2 hk hk2 hn
    have p16 : (2 : Int) ^ 16 = 65536 := by decide
    have p8 : (2 : Int) ^ 8 = 256 := by decide
    have f16 : Int.fdiv y (2 ^ 16) = y / 65536 := by rw [Int.fdiv_eq_ediv_of_nonneg _ (by decide), p16]
    have f8 : ∀ z, Int.fdiv z (2 ^ 8) = z / 256 := fun z => by rw [Int.fdiv_eq_ediv_of_nonneg _ (by decide), p8]
    have n8 : ∀ z : Int, z < 256 → need z ≤ 8 := fun z hz => need_le (k := 8) (by rw [p8]; exact hz)
    unfold S99J1
    dsimp only
    simp only [f16, f8]
    refine Br.dec (fun h => Br.dec (fun h2 => ?_) fun h2 => ?_) fun h => Br.dec (fun h2 => ?_) fun h2 => ?_
    · rw [u8_id (by omega)]
      refine ⟨by omega, by show _ < (256 : Int); omega, Lt.of ?_⟩
      rw [len8_of (by omega)]
      have a1 := need_shift 16 (x := y) (by rw [p16]; omega)
      have a2 := need_shift 8 (x := y / 65536) (by rw [p8]; omega)
      rw [p16] at a1
      rw [p8] at a2
      have b1 := n8 (y / 65536 / 256) (by omega)
      have b2 := need_nn (y / 65536 / 256)
      rw [i64_id (n := k + 16) (by omega), i64_id (n := k + 16 + 8) (by omega), i64_id (n := need _) (by omega), i64_id (by omega)]
      exact Lt.of ⟨by omega, trivial⟩
    · rw [u8_id (by omega)]
      refine ⟨by omega, by show _ < (256 : Int); omega, Lt.of ?_⟩
      rw [len8_of (by omega)]
      have a1 := need_shift 16 (x := y) (by rw [p16]; omega)
      rw [p16] at a1
      have b1 := n8 (y / 65536) (by omega)
      have b2 := need_nn (y / 65536)
      rw [i64_id (n := k + 16) (by omega), i64_id (n := need _) (by omega), i64_id (by omega)]
      exact ⟨by omega, trivial⟩
    · rw [u8_id (by omega)]
      refine ⟨by omega, by show _ < (256 : Int); omega, Lt.of ?_⟩
      rw [len8_of (by omega)]
      have a2 := need_shift 8 (x := y) (by rw [p8]; omega)
      rw [p8] at a2
      have b1 := n8 (y / 256) (by omega)
      have b2 := need_nn (y / 256)
      rw [i64_id (n := k + 8) (by omega), i64_id (n := need _) (by omega), i64_id (by omega)]
      exact ⟨by omega, trivial⟩
    · rw [u8_id (by omega)]
      refine ⟨by omega, by show _ < (256 : Int); omega, Lt.of ?_⟩
      rw [len8_of (by omega)]
      have b1 := n8 y (by omega)
      have b2 := need_nn y
      rw [i64_id (n := need _) (by omega), i64_id (by omega)]
      exact ⟨by omega, trivial⟩
  refine ⟨fun s w1 => w1 = w ∧ 0 ≤ s.1 ∧ s.1 < 4294967296 ∧ 0 ≤ s.2 ∧ s.2 ≤ 32 ∧ need x = need s.1 + s.2, ?_, ?_⟩
  case refine_2 =>
    have p32 : (2 : Int) ^ 32 = 4294967296 := by decide
    refine Br.dec (fun h => ?_) fun h => ⟨rfl, by dsimp only; omega, by dsimp only; omega, by dsimp only; omega, by dsimp only; omega, by dsimp only; omega⟩
    have f32 : Int.fdiv x (2 ^ 32) = x / 4294967296 := by rw [Int.fdiv_eq_ediv_of_nonneg _ (by decide), p32]
    have a1 := need_shift 32 (x := x) (by rw [p32]; omega)
    rw [p32] at a1
    rw [f32]
    exact ⟨rfl, by dsimp only; omega, by dsimp only; omega, by dsimp only; omega, by dsimp only; omega, by dsimp only; omega⟩
  rintro ⟨y, k⟩ _ ⟨rfl, h1, h2, h3, h4, h5⟩
  exact key y k h1 h2 h3 h4 h5
theorem c_need {n : Int} (hn : -9223372036854775808 ≤ n ∧ n ≤ 9223372036854775807) (w : World) : C43 n w fun r w1 => r = need n ∧ w1 = w := by
  refine T43 _ _ _ ?_
  unfold S43
  refine Br.dec (fun h => ⟨?_, rfl⟩) fun h => ?_
  · unfold need
    rw [if_pos (by omega)]
  have e : IntKind.u64.wrap n = n := IntWalk.u64_in n (by omega)
  rw [e]
  refine T84 _ _ _ ?_
  unfold S84
  refine (c_len64 (by omega) _).mono ?_
  rintro r _ ⟨rfl, rfl⟩
  exact ⟨rfl, rfl⟩
theorem r_need {n : Int} (hn : n ≤ 9223372036854775807) (w : World) : C44 n w fun r w1 => r = need n ∧ w1 = w := by
  refine T44 _ _ _ ?_
  unfold S44
  have hb : need n ≤ 63 := need_le (k := 63) (by have : (2 : Int) ^ 63 = 9223372036854775808 := by decide
                                                 omega)
  refine ⟨fun k s w1 => w1 = w ∧ k = s.1.toNat ∧ s.1 ≤ 9223372036854775807 ∧ 0 ≤ s.2 ∧ need n = need s.1 + s.2, _, ⟨rfl, rfl, hn, by dsimp only; omega, by dsimp only; omega⟩, ?_⟩
  rintro k ⟨x, b⟩ _ ⟨rfl, rfl, h1, h2, h3⟩
  simp only at h1 h2 h3
  unfold S44L1
  dsimp only
  refine Br.dec (fun h => ?_) fun h => ⟨?_, rfl⟩
  · have hx := need_half (x := x) (by omega)
    have hx2 := need_nn (x / 2)
    rw [show Int.tdiv x 2 = x / 2 from Int.tdiv_eq_ediv_of_nonneg (by omega), i64_id (n := x / 2) (by omega), i64_id (n := b + 1) (by omega)]
    exact ⟨(x / 2).toNat, by omega, rfl, rfl, by omega, by omega, by omega⟩
  · have : need x = 0 := by unfold need; rw [if_pos (by omega)]
    omega
end Hint
end Go.Proofs.Ytjlaijhmnlkpiaa
