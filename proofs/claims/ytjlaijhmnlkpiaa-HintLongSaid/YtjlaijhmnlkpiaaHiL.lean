/- Hints: the size of the text; plain law for HintLong. No condition but validity. -/
import Derived.Test.YtjlaijhmnlkpiaaHbH
namespace Go.Proofs.Ytjlaijhmnlkpiaa
namespace Hint
open Sh Bit
set_option linter.unusedVariables false
set_option linter.unusedSimpArgs false
set_option maxRecDepth 4000
set_option maxHeartbeats 1000000
theorem one_app {way : Int} {P X : List UInt8} {u : Nat} (h : u ≠ 0 → X ≠ []) (b : Nat) : oneS way (P ++ X, u) b = (P ++ (oneS way (X, u) b).1, (oneS way (X, u) b).2) ∧ (oneS way (X, u) b).1 ≠ [] := by
  have hg : grow (P ++ X, u) = P ++ grow (X, u) ∧ grow (X, u) ≠ [] := by
    unfold grow
    dsimp only
    split
    · exact ⟨by simp, by simp⟩
    · rename_i h0; exact ⟨rfl, h h0⟩
  obtain ⟨g1, g2⟩ := hg
  have g3 : (grow (X, u)).length ≠ 0 := fun e => g2 (List.eq_nil_of_length_eq_zero e)
  unfold oneS
  dsimp only
  rw [g1]
  refine ⟨?_, fun e => ?_⟩
  · congr 1
    unfold addLast lastN
    have hl : (P ++ grow (X, u)).length - 1 = P.length + ((grow (X, u)).length - 1) := by rw [List.length_append]; omega
    rw [hl, List.set_append_right _ _ (by omega), Nat.add_sub_cancel_left]
    congr 4
    rw [List.getD_eq_getElem?_getD, List.getElem?_append_right (by omega), Nat.add_sub_cancel_left, List.getD_eq_getElem?_getD]
  · have := congrArg List.length e
    unfold addLast at this
    rw [List.length_set] at this
    exact g3 this
theorem putS_app {way : Int} {P X : List UInt8} {u : Nat} (h : u ≠ 0 → X ≠ []) (v n : Nat) : ∀ i, putS way v n (P ++ X, u) i = (P ++ (putS way v n (X, u) i).1, (putS way v n (X, u) i).2) ∧ ((putS way v n (X, u) i).2 ≠ 0 → (putS way v n (X, u) i).1 ≠ [])
  | 0 => ⟨rfl, h⟩
  | i + 1 => by
    obtain ⟨h1, h2⟩ := putS_app h v n i
    have := one_app (way := way) (P := P) (X := (putS way v n (X, u) i).1) (u := (putS way v n (X, u) i).2) h2 (vbit way v n i)
    refine ⟨?_, fun _ => this.2⟩
    show oneS way (putS way v n (P ++ X, u) i) (vbit way v n i) = _
    rw [h1]
    exact this.1
/-- Two states whose bytes agree from the 16th on. -/
def Sf (W V : WS) : Prop := ∃ P Q X : List UInt8, ∃ u : Nat, P.length = 16 ∧ Q.length = 16 ∧ W.1 = (P ++ X, u) ∧ V.1 = (Q ++ X, u) ∧ (u ≠ 0 → X ≠ []) ∧ (W.2 = 0 ∨ W.2 = 2) ∧ (V.2 = 0 ∨ V.2 = 2)
theorem hiW_cases {W : WS} (h : W.2 = 0 ∨ W.2 = 2) (v n : Int) : (∃ a : Int, hiW W v n = (W.1, a) ∧ (a = 0 ∨ a = 2) ∧ (n < 0 ∨ 24 < n ∨ v < 0 ∨ 2 ^ n.toNat ≤ v)) ∨ ∃ a : Int, hiW W v n = (putS 2 v.toNat n.toNat W.1 n.toNat, a) ∧ (a = 0 ∨ a = 2) ∧ ¬ (n < 0 ∨ 24 < n ∨ v < 0 ∨ 2 ^ n.toNat ≤ v) := by
  unfold hiW putR
  have e : ¬ (W.2 ≠ 0 ∧ W.2 ≠ 2) := by omega
  simp only [e, or_false]
  split
  · rename_i hc; exact .inl ⟨W.2, rfl, h, hc⟩
  · rename_i hc
    refine .inr ⟨_, rfl, ?_, hc⟩
    split
    · exact .inr rfl
    · exact h
theorem Sf.hi {W V : WS} (h : Sf W V) (v n : Int) : Sf (hiW W v n) (hiW V v n) := by
  obtain ⟨P, Q, X, u, h1, h2, h3, h4, h5, h6, h7⟩ := h
  rcases hiW_cases h6 v n with ⟨a, ha, ha2, hc⟩ | ⟨a, ha, ha2, hc⟩
  · rcases hiW_cases h7 v n with ⟨b, hb, hb2, hd⟩ | ⟨b, hb, hb2, hd⟩
    · rw [ha, hb]
      exact ⟨P, Q, X, u, h1, h2, h3, h4, h5, ha2, hb2⟩
    · exact absurd hc hd
  · rcases hiW_cases h7 v n with ⟨b, hb, hb2, hd⟩ | ⟨b, hb, hb2, hd⟩
    · exact absurd hd hc
    · rw [ha, hb, h3, h4]
      obtain ⟨p1, p2⟩ := putS_app (way := 2) (P := P) h5 v.toNat n.toNat n.toNat
      obtain ⟨q1, q2⟩ := putS_app (way := 2) (P := Q) h5 v.toNat n.toNat n.toNat
      exact ⟨P, Q, _, _, h1, h2, p1, q1, p2, ha2, hb2⟩
theorem Sf.al {W V : WS} (h : Sf W V) : Sf (alW W) (alW V) := by
  obtain ⟨P, Q, X, u, h1, h2, h3, h4, h5, h6, h7⟩ := h
  refine ⟨P, Q, X, 0, h1, h2, ?_, ?_, fun h => absurd rfl h, .inl rfl, .inl rfl⟩
  · show (W.1.1, 0) = _; rw [h3]
  · show (V.1.1, 0) = _; rw [h4]
theorem Sf.vc {L M : List Hi} {c : Int} {W V : WS} (h : Sf W V) (hw : wd M c = wd L c) (hc : ∀ i, i < L.length → col (M.getD i (0, 0, 0)) c - ll M c = col (L.getD i (0, 0, 0)) c - ll L c) : ∀ i, i ≤ L.length → Sf (Vc L c W i) (Vc M c V i)
  | 0, _ => h
  | i + 1, hi' => by
    show Sf (hiW (Vc L c W i) (col (L.getD i (0, 0, 0)) c - ll L c) (wd L c)) (hiW (Vc M c V i) (col (M.getD i (0, 0, 0)) c - ll M c) (wd M c))
    rw [hw, hc i (by omega)]
    exact (Sf.vc h hw hc i (by omega)).hi _ _
theorem E1_used (L : List Hi) : ∀ k, (E1 L k).1.2 = 0 := fun k => by
  have e0 : (E0 L).1.2 = 0 := hi_used' (hi_used' rfl _) _
  induction k with
  | zero => exact e0
  | succ k ih => exact hi_used' (hi_used' ih _) _
theorem E1_16 {L : List Hi} (hd : Vd L) : (E1 L 3).1.1.length = 16 := by
  obtain ⟨b1, b2, _⟩ := E1_back hd (T := (E1 L 3).1.1) 3 (Agree.refl _ _ _)
  obtain ⟨_, c2⟩ := E0_back hd b1
  have h : pos (E1 L 3).1 = 128 := by omega
  unfold pos at h
  rw [if_pos (E1_used L 3)] at h
  omega
theorem E1_sf {L M : List Hi} (hd : Vd L) (hm : Vd M) : Sf (E1 L 3) (E1 M 3) := by
  refine ⟨(E1 L 3).1.1, (E1 M 3).1.1, [], 0, E1_16 hd, E1_16 hm, ?_, ?_, fun h => absurd rfl h, (E1_ok L 3).2, (E1_ok M 3).2⟩
  · rw [List.append_nil, ← E1_used L 3]
  · rw [List.append_nil, ← E1_used M 3]
theorem A3_sf {L M : List Hi} (hd : Vd L) (hm : Vd M) (hl : M.length = L.length) (hw : ∀ c, wd M c = wd L c) (hc : ∀ c i, i < L.length → col (M.getD i (0, 0, 0)) c - ll M c = col (L.getD i (0, 0, 0)) c - ll L c) : Sf (A3 L 3) (A3 M 3) := by
  have h2 : ∀ k, Sf (E2 L k) (E2 M k) := fun k => by
    induction k with
    | zero => exact E1_sf hd hm
    | succ k ih =>
      show Sf (hiW (E2 L k) (wd L (k : Int)) 16) (hiW (E2 M k) (wd M (k : Int)) 16)
      rw [hw]
      exact ih.hi _ _
  have h3 : ∀ k, Sf (A3 L k) (A3 M k) := fun k => by
    induction k with
    | zero => exact h2 3
    | succ k ih =>
      show Sf (alW (Vc L (k : Int) (A3 L k) L.length)) (alW (Vc M (k : Int) (A3 M k) M.length))
      rw [hl]
      exact (ih.vc (hw _) (hc _) _ (Nat.le_refl _)).al
  exact h3 3
theorem lo_mv {L M : List Hi} {c d : Int} (h0 : L.length ≠ 0) (h : ∀ i, i < L.length → col (M.getD i (0, 0, 0)) c = col (L.getD i (0, 0, 0)) c + d) : ∀ i, i ≤ L.length → lo M c i = lo L c i + d ∧ hi M c i = hi L c i + d
  | 0, _ => ⟨h 0 (by omega), h 0 (by omega)⟩
  | i + 1, hi' => by
    obtain ⟨a, b⟩ := lo_mv h0 h i (by omega)
    have e := h i (by omega)
    constructor
    · show (if col (M.getD i (0, 0, 0)) c < lo M c i then col (M.getD i (0, 0, 0)) c else lo M c i) = (if col (L.getD i (0, 0, 0)) c < lo L c i then col (L.getD i (0, 0, 0)) c else lo L c i) + d
      rw [a, e]
      split <;> split <;> omega
    · show (if col (M.getD i (0, 0, 0)) c > hi M c i then col (M.getD i (0, 0, 0)) c else hi M c i) = (if col (L.getD i (0, 0, 0)) c > hi L c i then col (L.getD i (0, 0, 0)) c else hi L c i) + d
      rw [b, e]
      split <;> split <;> omega
/-- Every number of a column moved by the same: the same bytes from the 16th on. -/
theorem moved_bytes {L M : List Hi} (h1 : whyH L = 0) (h2 : whyH M = 0) (hl : M.length = L.length) (h : ∀ c : Int, ∃ d : Int, ∀ i, i < L.length → col (M.getD i (0, 0, 0)) c = col (L.getD i (0, 0, 0)) c + d) :
    ∃ P Q X : List UInt8, P.length = 16 ∧ Q.length = 16 ∧ bytesH L = ⟨(P ++ X).toArray⟩ ∧ bytesH M = ⟨(Q ++ X).toArray⟩ := by
  obtain ⟨n0, n1, hc⟩ := whyH_zero h1
  obtain ⟨m0, m1, hm⟩ := whyH_zero h2
  have hlo : ∀ c, ∃ d : Int, lo M c L.length = lo L c L.length + d ∧ hi M c L.length = hi L c L.length + d ∧ ∀ i, i < L.length → col (M.getD i (0, 0, 0)) c = col (L.getD i (0, 0, 0)) c + d := fun c => by
    obtain ⟨d, hd⟩ := h c
    have := lo_mv n0 hd L.length (Nat.le_refl _)
    exact ⟨d, this.1, this.2, hd⟩
  obtain ⟨P, Q, X, u, q1, q2, q3, q4, _⟩ := A3_sf (L := L) (M := M) ⟨n0, n1, hc⟩ ⟨m0, m1, hm⟩ hl (fun c => by
    obtain ⟨d, d1, d2, _⟩ := hlo c
    unfold wd
    rw [hl, d1, d2]
    congr 1
    omega) (fun c i hi' => by
    obtain ⟨d, d1, d2, d3⟩ := hlo c
    unfold ll
    rw [hl, d1, d3 i hi']
    omega)
  refine ⟨P, Q, X, q1, q2, ?_, ?_⟩
  · unfold bytesH; rw [q3]
  · unfold bytesH; rw [q4]
theorem lo_more {L N : List Hi} {c : Int} (h : ∀ i, i < L.length → N.getD i (0, 0, 0) = L.getD i (0, 0, 0)) (h0 : L.length ≠ 0) : ∀ i, i ≤ L.length → lo N c i = lo L c i ∧ hi N c i = hi L c i
  | 0, _ => by
    constructor
    · show col _ _ = col _ _; rw [h 0 (by omega)]
    · show col _ _ = col _ _; rw [h 0 (by omega)]
  | i + 1, hi' => by
    obtain ⟨a, b⟩ := lo_more (c := c) h h0 i (by omega)
    constructor
    · show (if col (N.getD i (0, 0, 0)) c < lo N c i then col (N.getD i (0, 0, 0)) c else lo N c i) = (if col (L.getD i (0, 0, 0)) c < lo L c i then col (L.getD i (0, 0, 0)) c else lo L c i)
      rw [a, h i (by omega)]
    · show (if col (N.getD i (0, 0, 0)) c > hi N c i then col (N.getD i (0, 0, 0)) c else hi N c i) = (if col (L.getD i (0, 0, 0)) c > hi L c i then col (L.getD i (0, 0, 0)) c else hi L c i)
      rw [b, h i (by omega)]
/-- One more page with the values of an existing one. -/
theorem more_size {L : List Hi} {j : Nat} (h1 : whyH L = 0) (hj : j < L.length) (hn : L.length ≤ 2000) :
    whyH (L ++ [L.getD j (0, 0, 0)]) = 0 ∧ (bytesH L).size ≤ (bytesH (L ++ [L.getD j (0, 0, 0)])).size ∧
      8 * ((bytesH (L ++ [L.getD j (0, 0, 0)])).size : Int) - 8 * ((bytesH L).size : Int) ≤ wd L 0 + wd L 1 + wd L 2 + 21 ∧
      (wd L 0 + wd L 1 + wd L 2 = 0 → (bytesH (L ++ [L.getD j (0, 0, 0)])).size = (bytesH L).size) := by
  obtain ⟨n0, n1, hc⟩ := whyH_zero h1
  have hN : whyH (L ++ [L.getD j (0, 0, 0)]) = 0 := by
    unfold whyH at h1 ⊢
    rw [if_neg n0, if_neg (by omega)] at h1
    have h1' : L.all okH = true := by
      cases hh : L.all okH with
      | true => rfl
      | false => rw [hh] at h1; cases h1
    rw [if_neg (by rw [List.length_append]; simp), if_neg (by rw [List.length_append]; simp; omega), if_pos]
    rw [List.all_append, h1']
    have := List.all_eq_true.1 h1' L[j] (List.getElem_mem hj)
    rw [getD_eq hj]
    simp [this]
  have g1 := (gf h1).size
  have g2 := (gf hN).size
  have hw : ∀ c, wd (L ++ [L.getD j (0, 0, 0)]) c = wd L c := fun c => by
    have hget : ∀ i, i < L.length → (L ++ [L.getD j (0, 0, 0)]).getD i (0, 0, 0) = L.getD i (0, 0, 0) := fun i hi' => by
      rw [List.getD_eq_getElem?_getD, List.getElem?_append_left hi', List.getD_eq_getElem?_getD]
    have hlast : (L ++ [L.getD j (0, 0, 0)]).getD L.length (0, 0, 0) = L.getD j (0, 0, 0) := by
      rw [List.getD_eq_getElem?_getD, List.getElem?_append_right (Nat.le_refl _)]
      simp
    obtain ⟨a, b⟩ := lo_more (c := c) hget n0 L.length (Nat.le_refl _)
    have hb := (lo_bd (hc c) n0 L.length (Nat.le_refl _)).2.2.2.2.2 j hj
    have hlo : lo (L ++ [L.getD j (0, 0, 0)]) c (L.length + 1) = lo L c L.length := by
      show (if col ((L ++ [L.getD j (0, 0, 0)]).getD L.length (0, 0, 0)) c < lo (L ++ [L.getD j (0, 0, 0)]) c L.length then col ((L ++ [L.getD j (0, 0, 0)]).getD L.length (0, 0, 0)) c else lo (L ++ [L.getD j (0, 0, 0)]) c L.length) = _
      rw [a, hlast, if_neg (by omega)]
    have hhi : hi (L ++ [L.getD j (0, 0, 0)]) c (L.length + 1) = hi L c L.length := by
      show (if col ((L ++ [L.getD j (0, 0, 0)]).getD L.length (0, 0, 0)) c > hi (L ++ [L.getD j (0, 0, 0)]) c L.length then col ((L ++ [L.getD j (0, 0, 0)]).getD L.length (0, 0, 0)) c else hi (L ++ [L.getD j (0, 0, 0)]) c L.length) = _
      rw [b, hlast, if_neg (by omega)]
    unfold wd
    rw [List.length_append, show [L.getD j (0, 0, 0)].length = 1 by rfl, hlo, hhi]
  have o1 : ∀ c : Nat, offL L (c + 1) = (offL L c + L.length * (wd L (c : Int)).toNat + 7) / 8 * 8 := fun _ => rfl
  have o2 : ∀ c : Nat, offL (L ++ [L.getD j (0, 0, 0)]) (c + 1) = (offL (L ++ [L.getD j (0, 0, 0)]) c + L.length * (wd L (c : Int)).toNat + (wd L (c : Int)).toNat + 7) / 8 * 8 := fun c => by
    show (offL (L ++ [L.getD j (0, 0, 0)]) c + (L ++ [L.getD j (0, 0, 0)]).length * (wd (L ++ [L.getD j (0, 0, 0)]) (c : Int)).toNat + 7) / 8 * 8 = _
    rw [hw, List.length_append, show [L.getD j (0, 0, 0)].length = 1 by rfl, Nat.add_mul]
    omega
  have z1 : offL L 0 = 176 := rfl
  have z2 : offL (L ++ [L.getD j (0, 0, 0)]) 0 = 176 := rfl
  have w0 := (wd_bd (hc 0) n0).1
  have w1 := (wd_bd (hc 1) n0).1
  have w2 := (wd_bd (hc 2) n0).1
  have a0 := o1 0
  have a1 := o1 1
  have a2 := o1 2
  have b0 := o2 0
  have b1 := o2 1
  have b2 := o2 2
  simp only [Nat.zero_add, show ((0 : Nat) : Int) = 0 by rfl, show ((1 : Nat) : Int) = 1 by rfl, show ((2 : Nat) : Int) = 2 by rfl, show 1 + 1 = 2 by rfl, show 2 + 1 = 3 by rfl] at a0 a1 a2 b0 b1 b2
  generalize L.length * (wd L 0).toNat = m0 at *
  generalize L.length * (wd L 1).toNat = m1 at *
  generalize L.length * (wd L 2).toNat = m2 at *
  refine ⟨hN, ?_, ?_, fun hz => ?_⟩
  · omega
  · omega
  · omega
theorem tk8 (s : ByteArray) (i : Nat) : tk s 2 (8 * i) 8 = byt s i := by
  have hb := byt_bd s i
  have h : ∀ k, k < 8 → bt s 2 (8 * i + k) = byt s i / 2 ^ (7 - k) % 2 := fun k hk => by
    unfold bt
    rw [if_neg (by decide), show (8 * i + k) / 8 = i by omega, show (8 * i + k) % 8 = k by omega]
  simp only [tk, show ¬ ((2 : Int) = 1) by decide, if_false]
  rw [h 0 (by omega), h 1 (by omega), h 2 (by omega), h 3 (by omega), h 4 (by omega), h 5 (by omega), h 6 (by omega), h 7 (by omega)]
  simp only [show (7 : Nat) - 0 = 7 by rfl, show (7 : Nat) - 1 = 6 by rfl, show (7 : Nat) - 2 = 5 by rfl, show (7 : Nat) - 3 = 4 by rfl, show (7 : Nat) - 4 = 3 by rfl, show (7 : Nat) - 5 = 2 by rfl, show (7 : Nat) - 6 = 1 by rfl, show (7 : Nat) - 7 = 0 by rfl,
    show (2 : Int) ^ 7 = 128 by decide, show (2 : Int) ^ 6 = 64 by decide, show (2 : Int) ^ 5 = 32 by decide, show (2 : Int) ^ 4 = 16 by decide, show (2 : Int) ^ 3 = 8 by decide, show (2 : Int) ^ 2 = 4 by decide, show (2 : Int) ^ 1 = 2 by decide, show (2 : Int) ^ 0 = 1 by decide]
  omega
theorem tk16 (s : ByteArray) (i : Nat) : tk s 2 (8 * i) 16 = 256 * byt s i + byt s (i + 1) := by
  rw [show (16 : Nat) = 8 + 8 by rfl, tk_high, tk8, show 8 * i + 8 = 8 * (i + 1) by omega, tk8, show (2 : Int) ^ 8 = 256 by decide]
  omega
/-- The widths, as the bytes from the 16th on say. -/
theorem wide_bytes {L : List Hi} (h : whyH L = 0) : 22 ≤ (bytesH L).size ∧ 256 * byt (bytesH L) 16 + byt (bytesH L) 17 = wd L 0 ∧ 256 * byt (bytesH L) 18 + byt (bytesH L) 19 = wd L 1 ∧ 256 * byt (bytesH L) 20 + byt (bytesH L) 21 = wd L 2 := by
  have g := gf h
  have h0 := g.wid 0 (by omega)
  have h1 := g.wid 1 (by omega)
  have h2 := g.wid 2 (by omega)
  have t0 := tk16 (bytesH L) 16
  have t1 := tk16 (bytesH L) 18
  have t2 := tk16 (bytesH L) 20
  have hs := g.size
  have l0 : offL L 0 + L.length * (wd L 0).toNat ≤ offL L 1 := offL_le L 0
  have l1 : offL L 1 + L.length * (wd L 1).toNat ≤ offL L 2 := offL_le L 1
  have l2 : offL L 2 + L.length * (wd L 2).toNat ≤ offL L 3 := offL_le L 2
  have e0 : offL L 0 = 176 := rfl
  refine ⟨by omega, ?_, ?_, ?_⟩
  · rw [← t0]; exact h0
  · rw [← t1]; exact h1
  · rw [← t2]; exact h2
end Hint
end Go.Proofs.Ytjlaijhmnlkpiaa
