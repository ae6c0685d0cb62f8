/- Hints: Text on both sides. Conditions: sizes. -/
import Derived.Test.YtjlaijhmnlkpiaaHiC
namespace Go.Proofs.Ytjlaijhmnlkpiaa
namespace Hint
open Sh Bit
set_option linter.unusedVariables false
set_option linter.unusedSimpArgs false
set_option maxRecDepth 4000
set_option maxHeartbeats 1000000
theorem lo_bd {L : List Hi} {c : Int} (h : ∀ i, i < L.length → 0 ≤ col (L.getD i (0, 0, 0)) c ∧ col (L.getD i (0, 0, 0)) c ≤ 1048576) (h0 : L.length ≠ 0) : ∀ i, i ≤ L.length → 0 ≤ lo L c i ∧ lo L c i ≤ 1048576 ∧ 0 ≤ hi L c i ∧ hi L c i ≤ 1048576 ∧ lo L c i ≤ hi L c i ∧ ∀ j, j < i → lo L c i ≤ col (L.getD j (0, 0, 0)) c ∧ col (L.getD j (0, 0, 0)) c ≤ hi L c i
  | 0, _ => by
    have := h 0 (by omega)
    exact ⟨this.1, this.2, this.1, this.2, Int.le_refl _, fun j hj => by omega⟩
  | i + 1, hi' => by
    obtain ⟨a1, a2, a3, a4, a5, a6⟩ := lo_bd h h0 i (by omega)
    have b := h i (by omega)
    have g1 : lo L c (i + 1) = if col (L.getD i (0, 0, 0)) c < lo L c i then col (L.getD i (0, 0, 0)) c else lo L c i := rfl
    have g2 : hi L c (i + 1) = if col (L.getD i (0, 0, 0)) c > hi L c i then col (L.getD i (0, 0, 0)) c else hi L c i := rfl
    have c1 : lo L c (i + 1) ≤ lo L c i ∧ lo L c (i + 1) ≤ col (L.getD i (0, 0, 0)) c ∧ (lo L c (i + 1) = lo L c i ∨ lo L c (i + 1) = col (L.getD i (0, 0, 0)) c) := by rw [g1]; split <;> omega
    have c2 : hi L c i ≤ hi L c (i + 1) ∧ col (L.getD i (0, 0, 0)) c ≤ hi L c (i + 1) ∧ (hi L c (i + 1) = hi L c i ∨ hi L c (i + 1) = col (L.getD i (0, 0, 0)) c) := by rw [g2]; split <;> omega
    refine ⟨by omega, by omega, by omega, by omega, by omega, fun j hj => ?_⟩
    by_cases hji : j = i
    · subst hji; omega
    · have := a6 j (by omega); omega
/-- The width of column c. -/
def wd (L : List Hi) (c : Int) : Int := need (hi L c L.length - lo L c L.length)
def ll (L : List Hi) (c : Int) : Int := lo L c L.length
def E0 (L : List Hi) : WS := hiW (hiW (([], 0), 0) ((L.length : Int) / 65536) 16) ((L.length : Int) % 65536) 16
def E1 (L : List Hi) : Nat → WS
  | 0 => E0 L
  | k + 1 => hiW (hiW (E1 L k) (ll L (k : Int) / 65536) 16) (ll L (k : Int) % 65536) 16
def E2 (L : List Hi) : Nat → WS
  | 0 => E1 L 3
  | k + 1 => hiW (E2 L k) (wd L (k : Int)) 16
/-- Column c's first i values after state W. -/
def Vc (L : List Hi) (c : Int) (W : WS) : Nat → WS
  | 0 => W
  | i + 1 => hiW (Vc L c W i) (col (L.getD i (0, 0, 0)) c - ll L c) (wd L c)
def A3 (L : List Hi) : Nat → WS
  | 0 => E2 L 3
  | k + 1 => alW (Vc L (k : Int) (A3 L k) L.length)
def B3 (L : List Hi) : Nat → WS
  | 0 => E2 L 3
  | k + 1 => Vc L (k : Int) (alW (B3 L k)) L.length
/-- What Text answers. -/
def textH (L : List Hi) : ByteArray × Int := if whyH L = 0 then (⟨(A3 L 3).1.1.toArray⟩, 0) else (⟨#[]⟩, whyH L)
theorem E0_len (L : List Hi) : (E0 L).1.1.length ≤ 48 := by
  unfold E0
  have := hiW_len (hiW (([], 0), 0) ((L.length : Int) / 65536) 16) ((L.length : Int) % 65536) 16
  have h2 := hiW_len (([], 0), 0) ((L.length : Int) / 65536) 16
  have h3 : (((([], 0), 0) : WS)).1.1.length = 0 := rfl
  omega
theorem E1_len (L : List Hi) : ∀ k, (E1 L k).1.1.length ≤ 48 + 48 * k
  | 0 => E0_len L
  | k + 1 => by
    have := hiW_len (hiW (E1 L k) (ll L (k : Int) / 65536) 16) (ll L (k : Int) % 65536) 16
    have h2 := hiW_len (E1 L k) (ll L (k : Int) / 65536) 16
    have h3 := E1_len L k
    show (hiW (hiW (E1 L k) (ll L (k : Int) / 65536) 16) (ll L (k : Int) % 65536) 16).1.1.length ≤ _
    omega
theorem E2_len (L : List Hi) : ∀ k, (E2 L k).1.1.length ≤ 192 + 24 * k
  | 0 => E1_len L 3
  | k + 1 => by
    have := hiW_len (E2 L k) (wd L (k : Int)) 16
    have h3 := E2_len L k
    show (hiW (E2 L k) (wd L (k : Int)) 16).1.1.length ≤ _
    omega
theorem Vc_len (L : List Hi) (c : Int) (W : WS) : ∀ i, (Vc L c W i).1.1.length ≤ W.1.1.length + 24 * i
  | 0 => by simp [Vc]
  | i + 1 => by
    have := hiW_len (Vc L c W i) (col (L.getD i (0, 0, 0)) c - ll L c) (wd L c)
    have h3 := Vc_len L c W i
    show (hiW (Vc L c W i) (col (L.getD i (0, 0, 0)) c - ll L c) (wd L c)).1.1.length ≤ _
    omega
theorem A3_len (L : List Hi) : ∀ k, (A3 L k).1.1.length ≤ 264 + 24 * L.length * k
  | 0 => E2_len L 3
  | k + 1 => by
    have := Vc_len L (k : Int) (A3 L k) L.length
    have h3 := A3_len L k
    show (Vc L (k : Int) (A3 L k) L.length).1.1.length ≤ _
    rw [Nat.mul_succ]
    omega
theorem B3_len (L : List Hi) : ∀ k, (B3 L k).1.1.length ≤ 264 + 24 * L.length * k
  | 0 => E2_len L 3
  | k + 1 => by
    have := Vc_len L (k : Int) (alW (B3 L k)) L.length
    have h3 := B3_len L k
    have h4 : (alW (B3 L k)).1.1.length = (B3 L k).1.1.length := rfl
    show (Vc L (k : Int) (alW (B3 L k)) L.length).1.1.length ≤ _
    rw [Nat.mul_succ]
    omega
/-- Two states that differ at most in that one has no order yet. -/
def Eqv (W V : WS) : Prop := W.1 = V.1 ∧ (W.2 = 0 ∨ W.2 = 2) ∧ (V.2 = 0 ∨ V.2 = 2)
theorem Eqv.hi {W V : WS} (h : Eqv W V) (v n : Int) : Eqv (hiW W v n) (hiW V v n) := by
  obtain ⟨⟨st, a⟩, rfl⟩ : ∃ X : WS, X = W := ⟨W, rfl⟩
  obtain ⟨⟨st2, b⟩, rfl⟩ : ∃ X : WS, X = V := ⟨V, rfl⟩
  obtain ⟨h1, h2, h3⟩ := h
  simp only at h1 h2 h3
  subst h1
  unfold hiW putR
  dsimp only
  have e1 : ¬ (a ≠ 0 ∧ a ≠ 2) := by omega
  have e2 : ¬ (b ≠ 0 ∧ b ≠ 2) := by omega
  simp only [e1, e2, or_false]
  split
  · exact ⟨rfl, h2, h3⟩
  · refine ⟨rfl, ?_, ?_⟩
    · dsimp only; split
      · exact .inr rfl
      · exact h2
    · dsimp only; split
      · exact .inr rfl
      · exact h3
theorem Eqv.vc {L : List Hi} {c : Int} {W V : WS} (h : Eqv W V) : ∀ i, Eqv (Vc L c W i) (Vc L c V i)
  | 0 => h
  | i + 1 => (Eqv.vc h i).hi _ _
theorem Eqv.al {W V : WS} (h : Eqv W V) : alW W = alW V := by unfold alW; rw [h.1]
theorem hi_way {W : WS} (h : W.2 = 0 ∨ W.2 = 2) (v n : Int) : (hiW W v n).2 = 0 ∨ (hiW W v n).2 = 2 := (Eqv.hi ⟨rfl, h, h⟩ v n).2.1
theorem E2_way (L : List Hi) : (E2 L 3).2 = 0 ∨ (E2 L 3).2 = 2 := by
  have e0 : (E0 L).2 = 0 ∨ (E0 L).2 = 2 := hi_way (hi_way (.inl rfl) _ _) _ _
  have e1 : ∀ k, (E1 L k).2 = 0 ∨ (E1 L k).2 = 2 := fun k => by
    induction k with
    | zero => exact e0
    | succ k ih => exact hi_way (hi_way ih _ _) _ _
  have e2 : ∀ k, (E2 L k).2 = 0 ∨ (E2 L k).2 = 2 := fun k => by
    induction k with
    | zero => exact e1 3
    | succ k ih => exact hi_way ih _ _
  exact e2 3
theorem hi_used {l : List UInt8} {a v : Int} : (hiW ((l, 0), a) v 16).1.2 = 0 := by
  unfold hiW putR
  dsimp only
  split
  · rfl
  · show (putS 2 v.toNat (16 : Int).toNat (l, 0) (16 : Int).toNat).2 = 0
    have : ∀ i, (putS 2 v.toNat (16 : Int).toNat (l, 0) i).2 = i % 8 := fun i => by
      induction i with
      | zero => rfl
      | succ i ih =>
        show ((putS 2 v.toNat (16 : Int).toNat (l, 0) i).2 + 1) % 8 = _
        rw [ih]; omega
    rw [this]
    decide
theorem hi_used' {W : WS} (h : W.1.2 = 0) (v : Int) : (hiW W v 16).1.2 = 0 := by
  obtain ⟨⟨l, u⟩, a⟩ := W
  simp only at h
  subst h
  exact hi_used
theorem E2_used (L : List Hi) : (E2 L 3).1.2 = 0 := by
  have e0 : (E0 L).1.2 = 0 := hi_used' (hi_used' rfl _) _
  have e1 : ∀ k, (E1 L k).1.2 = 0 := fun k => by
    induction k with
    | zero => exact e0
    | succ k ih => exact hi_used' (hi_used' ih _) _
  have e2 : ∀ k, (E2 L k).1.2 = 0 := fun k => by
    induction k with
    | zero => exact e1 3
    | succ k ih => exact hi_used' ih _
  exact e2 3
/-- Both orders of Align give the same bytes. -/
theorem A3_B3 (L : List Hi) : A3 L 3 = alW (B3 L 3) := by
  have k0 : Eqv (A3 L 0) (alW (B3 L 0)) := by
    refine ⟨?_, E2_way L, .inl rfl⟩
    show (E2 L 3).1 = ((E2 L 3).1.1, 0)
    rw [← E2_used L]
  have st : ∀ k, Eqv (A3 L k) (alW (B3 L k)) → A3 L (k + 1) = alW (B3 L (k + 1)) := fun k h => (h.vc (L := L) (c := (k : Int)) L.length).al
  have k1 := st 0 k0
  have r : ∀ W : WS, W.2 = 0 → Eqv W W := fun W h => ⟨rfl, .inl h, .inl h⟩
  have k2 := st 1 (by rw [k1]; exact r _ rfl)
  exact st 2 (by rw [k2]; exact r _ rfl)
theorem wd_bd {L : List Hi} {c : Int} (h : ∀ i, i < L.length → 0 ≤ col (L.getD i (0, 0, 0)) c ∧ col (L.getD i (0, 0, 0)) c ≤ 1048576) (h0 : L.length ≠ 0) : 0 ≤ wd L c ∧ wd L c ≤ 21 := by
  have := lo_bd h h0 L.length (Nat.le_refl _)
  exact ⟨need_nn _, need_le (k := 21) (by have : (2 : Int) ^ 21 = 2097152 := by decide
                                          omega)⟩
theorem whyH_zero {L : List Hi} (h : whyH L = 0) : L.length ≠ 0 ∧ L.length ≤ 2048 ∧ ∀ c : Int, ∀ i, i < L.length → 0 ≤ col (L.getD i (0, 0, 0)) c ∧ col (L.getD i (0, 0, 0)) c ≤ 1048576 := by
  unfold whyH at h
  split at h
  · cases h
  · split at h
    · cases h
    · split at h
      · rename_i h0 h1 h2
        refine ⟨h0, by omega, fun c i hi => ?_⟩
        have := List.all_eq_true.1 h2 L[i] (List.getElem_mem hi)
        unfold okH at this
        have := of_decide_eq_true this
        rw [getD_eq hi]
        obtain ⟨⟨a1, a2⟩, ⟨a3, a4⟩, ⟨a5, a6⟩⟩ := this
        simp only [col, most] at a1 a2 a3 a4 a5 a6 ⊢
        simp at a1 a2 a3 a4 a5 a6
        split
        · omega
        · split <;> omega
      · cases h
end Hint
end Go.Proofs.Ytjlaijhmnlkpiaa
