/- What is written bit by bit is read back: plain laws, no program in sight. No condition. -/
import Derived.Test.YtapgacggllbhiaaBitWM
namespace Go.Proofs.Ytapgacggllbhiaa
namespace Bit
open Sh
set_option linter.unusedVariables false
set_option linter.unusedSimpArgs false

def nb (l : List UInt8) (j : Nat) : Nat := (l.getD j 0).toNat
theorem lastN_nb (l : List UInt8) : lastN l = nb l (l.length - 1) := rfl
/-- Bit k of a byte, in an order. -/
def bitN (way : Int) (x k : Nat) : Nat := if way = 1 then x / 2 ^ k % 2 else x / 2 ^ (7 - k) % 2
theorem byt_nb (l : List UInt8) (j : Nat) : byt ⟨l.toArray⟩ j = (nb l j : Int) := by
  unfold byt nb
  simp [Array.getD_eq_getD_getElem?, List.getD_eq_getElem?_getD]
theorem bt_bitN (l : List UInt8) (way : Int) (q : Nat) : bt ⟨l.toArray⟩ way q = (bitN way (nb l (q / 8)) (q % 8) : Int) := by
  unfold bt bitN
  rw [byt_nb]
  split <;> simp
/-- How many bits are written. -/
def pos (st : List UInt8 × Nat) : Nat := if st.2 = 0 then 8 * st.1.length else 8 * (st.1.length - 1) + st.2
theorem pos_grow {way : Int} {st : List UInt8 × Nat} (h : WOK way st) : pos st = 8 * ((grow st).length - 1) + st.2 := by
  unfold pos grow
  split
  · rename_i h0; simp [h0]
  · rfl
theorem pos_one {way : Int} {st : List UInt8 × Nat} (h : WOK way st) (b : Nat) : pos (oneS way st b) = pos st + 1 := by
  have hlt := h.lt
  have hg := List.length_pos_iff.2 (grow_ne h)
  rw [pos_grow h]
  unfold pos
  rw [oneS_len]
  show (if (st.2 + 1) % 8 = 0 then _ else _ + (st.2 + 1) % 8) = _
  split <;> omega
theorem even_shift {x b i k : Nat} (hk : k < i) : (x + b * 2 ^ i) / 2 ^ k % 2 = x / 2 ^ k % 2 := by
  obtain ⟨d, rfl⟩ : ∃ d, i = k + (d + 1) := ⟨i - k - 1, by omega⟩
  have e : b * 2 ^ (k + (d + 1)) = 2 ^ k * (2 * (b * 2 ^ d)) := by
    rw [Nat.pow_add, Nat.pow_succ, Nat.mul_left_comm, Nat.mul_comm (2 ^ d) 2, Nat.mul_left_comm b]
  rw [e, Nat.add_mul_div_left _ _ (Nat.pow_pos (by decide))]
  omega
theorem bits_one {way : Int} {st : List UInt8 × Nat} (h : WOK way st) {b : Nat} (hb : b ≤ 1) : bitN way (lastN (grow st) + b * 2 ^ pl way st.2) st.2 = b ∧
    ∀ k, k < st.2 → bitN way (lastN (grow st) + b * 2 ^ pl way st.2) k = bitN way (lastN (grow st)) k := by
  have hlt := h.lt
  by_cases hw : way = 1
  · subst hw
    have hx := grow_low h
    simp only [bitN, pl, if_true]
    refine ⟨?_, fun k hk => even_shift hk⟩
    rw [Nat.add_mul_div_right _ _ (Nat.pow_pos (by decide)), Nat.div_eq_of_lt hx]
    omega
  · obtain ⟨m, hm⟩ := grow_high h hw
    simp only [bitN, pl, hw, if_false]
    have e : 2 ^ (8 - st.2) = 2 ^ (7 - st.2) * 2 := by rw [← Nat.pow_succ]; congr 1; omega
    have hs : lastN (grow st) + b * 2 ^ (7 - st.2) = 2 ^ (7 - st.2) * (2 * m + b) := by
      rw [hm, e, Nat.mul_add, Nat.mul_comm b, ← Nat.mul_assoc, Nat.mul_comm m, Nat.mul_assoc]
      rw [Nat.mul_comm 2 m]
    have hs0 : lastN (grow st) = 2 ^ (7 - st.2) * (2 * m) := by
      rw [hm, e, Nat.mul_comm m, Nat.mul_assoc]
    refine ⟨?_, fun k hk => ?_⟩
    · rw [hs, Nat.mul_div_cancel_left _ (Nat.pow_pos (by decide))]
      omega
    · have ek : 2 ^ (7 - k) = 2 ^ (7 - st.2) * (2 * 2 ^ (st.2 - k - 1)) := by
        rw [← Nat.pow_succ', ← Nat.pow_add]
        congr 1
        omega
      rw [hs, hs0, ek, Nat.mul_div_mul_left _ _ (Nat.pow_pos (by decide)), Nat.mul_div_mul_left _ _ (Nat.pow_pos (by decide)), ← Nat.div_div_eq_div_mul, ← Nat.div_div_eq_div_mul]
      congr 2
      omega
/-- T agrees with l in the first p bits, as read in this order. -/
def Agree (way : Int) (p : Nat) (l T : List UInt8) : Prop := (∀ j, j < p / 8 → T.getD j 0 = l.getD j 0) ∧ ∀ k, k < p % 8 → bitN way (nb T (p / 8)) k = bitN way (nb l (p / 8)) k
theorem Agree.refl (way : Int) (p : Nat) (l : List UInt8) : Agree way p l l := ⟨fun _ _ => rfl, fun _ _ => rfl⟩
theorem Agree.whole {way : Int} {n : Nat} {l T : List UInt8} (h : ∀ j, j < n → T.getD j 0 = l.getD j 0) : Agree way (8 * n) l T := ⟨fun j hj => h j (by omega), fun k hk => by omega⟩
theorem Agree.any {way way' : Int} {n : Nat} {l T : List UInt8} (h : Agree way (8 * n) l T) : Agree way' (8 * n) l T := ⟨h.1, fun k hk => by omega⟩
theorem Agree.one {way : Int} {st : List UInt8 × Nat} (h : WOK way st) {b : Nat} (hb : b ≤ 1) {T : List UInt8} (ha : Agree way (pos st + 1) (oneS way st b).1 T) :
    Agree way (pos st) st.1 T ∧ bitN way (nb T (pos st / 8)) (pos st % 8) = b := by
  have hlt := h.lt
  have hgn := grow_ne h
  have hg := List.length_pos_iff.2 hgn
  obtain ⟨h1, _, _⟩ := place_new h hb
  obtain ⟨b1, b2⟩ := bits_one h hb
  have hp := pos_grow h
  have e1 : pos st / 8 = (grow st).length - 1 := by omega
  have e2 : pos st % 8 = st.2 := by omega
  have hnew : nb (oneS way st b).1 ((grow st).length - 1) = lastN (grow st) + b * 2 ^ pl way st.2 := by
    have := lastN_addLast hgn h1
    rw [lastN_nb] at this
    unfold addLast at this
    rw [List.length_set] at this
    exact this
  have hold : ∀ j, j < (grow st).length - 1 → (oneS way st b).1.getD j 0 = st.1.getD j 0 := fun j hj => by
    show (List.set _ _ _).getD j 0 = _
    rw [List.getD_eq_getElem?_getD, List.getElem?_set_ne (by omega)]
    unfold grow at hj ⊢
    split
    · rename_i h0
      rw [if_pos h0] at hj
      rw [List.getElem?_append_left (by simp at hj; exact hj), List.getD_eq_getElem?_getD]
    · rw [List.getD_eq_getElem?_getD]
  have hT : ∀ k, k ≤ st.2 → bitN way (nb T ((grow st).length - 1)) k = bitN way (lastN (grow st) + b * 2 ^ pl way st.2) k := fun k hk => by
    by_cases h8 : st.2 + 1 = 8
    · have := ha.1 ((grow st).length - 1) (by omega)
      have : nb T ((grow st).length - 1) = nb (oneS way st b).1 ((grow st).length - 1) := by unfold nb; rw [this]
      rw [this, hnew]
    · have := ha.2 k (by omega)
      rw [show (pos st + 1) / 8 = (grow st).length - 1 by omega, hnew] at this
      exact this
  refine ⟨⟨fun j hj => ?_, fun k hk => ?_⟩, ?_⟩
  · rw [ha.1 j (by omega)]
    exact hold j (by omega)
  · rw [e1]
    rw [e2] at hk
    rw [hT k (by omega), b2 k hk, lastN_nb]
    unfold grow
    rw [if_neg (by omega)]
  · rw [e1, e2, hT _ (Nat.le_refl _), b1]
theorem pos_put {way : Int} {st : List UInt8 × Nat} (h : WOK way st) (v n : Nat) : ∀ i, pos (putS way v n st i) = pos st + i
  | 0 => rfl
  | i + 1 => by
    show pos (oneS way _ _) = _
    rw [pos_one (h.put v n i), pos_put h v n i, Nat.add_assoc]
theorem Agree.put {way : Int} {st : List UInt8 × Nat} (h : WOK way st) (v n : Nat) {T : List UInt8} : ∀ i, Agree way (pos st + i) (putS way v n st i).1 T →
    Agree way (pos st) st.1 T ∧ ∀ j, j < i → bitN way (nb T ((pos st + j) / 8)) ((pos st + j) % 8) = vbit way v n j
  | 0, ha => ⟨ha, fun j hj => by omega⟩
  | i + 1, ha => by
    have hok := h.put v n i
    have hp := pos_put h v n i
    rw [← Nat.add_assoc, ← hp] at ha
    obtain ⟨h1, h2⟩ := Agree.one hok (vbit_le way v n i) ha
    rw [hp] at h1 h2
    obtain ⟨h3, h4⟩ := Agree.put h v n i h1
    refine ⟨h3, fun j hj => ?_⟩
    by_cases hji : j = i
    · subst hji; exact h2
    · exact h4 j (by omega)
theorem tk_bits {T : List UInt8} {way : Int} {p v n : Nat} (hv : v < 2 ^ n) (hb : ∀ j, j < n → bitN way (nb T ((p + j) / 8)) ((p + j) % 8) = vbit way v n j) : tk ⟨T.toArray⟩ way p n = (v : Int) := by
  by_cases hw : way = 1
  · subst hw
    have key : ∀ i, i ≤ n → tk ⟨T.toArray⟩ 1 p i = ((v % 2 ^ i : Nat) : Int) := by
      intro i
      induction i with
      | zero => intro _; simp [tk, Nat.mod_one]
      | succ i ih =>
        intro hi
        have h1 := hb i (by omega)
        simp only [tk, if_true]
        rw [ih (by omega), bt_bitN, h1, Nat.mod_pow_succ]
        simp [vbit, Int.mul_comm]
    rw [key n (Nat.le_refl _), Nat.mod_eq_of_lt hv]
  · have key : ∀ i, i ≤ n → tk ⟨T.toArray⟩ way p i = ((v / 2 ^ (n - i) : Nat) : Int) := by
      intro i
      induction i with
      | zero => intro _; simp [tk, Nat.div_eq_of_lt hv]
      | succ i ih =>
        intro hi
        have h1 := hb i (by omega)
        simp only [tk, hw, if_false]
        rw [ih (by omega), bt_bitN, h1]
        simp only [vbit, hw, if_false]
        rw [show n - i = n - 1 - i + 1 by omega, show n - (i + 1) = n - 1 - i by omega, Nat.pow_succ, ← Nat.div_div_eq_div_mul]
        generalize v / 2 ^ (n - 1 - i) = y
        omega
    rw [key n (Nat.le_refl _)]
    simp

/-! ### A list of calls -/

/-- One call of the list. -/
structure Ask where
  d : Int
  n : Int
  v : Int
  s : ByteArray
def numN (q : Ask) : Nat := q.n.natAbs % 25
def numV (q : Ask) : Nat := q.v.natAbs % 2 ^ numN q
theorem numN_lt (q : Ask) : numN q < 25 := Nat.mod_lt _ (by decide)
theorem numV_lt (q : Ask) : numV q < 2 ^ numN q := Nat.mod_lt _ (Nat.pow_pos (by decide))
def rawS (st : List UInt8 × Nat) (t : ByteArray) : List UInt8 × Nat := (st.1 ++ t.data.toList, 0)
def rawWay (way : Int) (st : List UInt8 × Nat) : Int := if st.2 = 0 then way else 0
/-- Is there an Align ahead of call i? -/
def al (f : Nat → Ask) (i : Nat) : Prop := (0 < i ∧ (f i).d ≠ (f (i - 1)).d) ∨ 1 < (f i).d ∨ (f i).d < 0
open Classical in
noncomputable def stepA (f : Nat → Ask) (i : Nat) (W : Int × (List UInt8 × Nat)) : Int × (List UInt8 × Nat) := if al f i then (0, (W.2.1, 0)) else W
def stepC (q : Ask) (W : Int × (List UInt8 × Nat)) : Int × (List UInt8 × Nat) :=
  if q.d = 0 then (if 0 < ((numN q : Nat) : Int) then 1 else W.1, putS 1 (numV q) (numN q) W.2 (numN q))
  else if q.d = 1 then (if 0 < ((numN q : Nat) : Int) then 2 else W.1, putS 2 (numV q) (numN q) W.2 (numN q))
  else if q.d = 3 then (rawWay W.1 W.2, rawS W.2 q.s)
  else W
/-- What is written after i calls. -/
noncomputable def Wr (f : Nat → Ask) : Nat → Int × (List UInt8 × Nat)
  | 0 => (0, ([], 0))
  | i + 1 => stepC (f i) (stepA f i (Wr f i))
theorem stepA_yes {f : Nat → Ask} {i : Nat} {W : Int × (List UInt8 × Nat)} (h : al f i) : stepA f i W = (0, (W.2.1, 0)) := if_pos h
theorem stepA_no {f : Nat → Ask} {i : Nat} {W : Int × (List UInt8 × Nat)} (h : ¬ al f i) : stepA f i W = W := if_neg h
theorem WInv.putS {way : Int} {st : List UInt8 × Nat} (h : WInv way st) (v n : Nat) {w' : Int} (hw : w' = 1 ∨ w' = 2) (hc : way = 0 ∨ way = w') : WInv (if 0 < ((n : Nat) : Int) then w' else way) (putS w' v n st n) := by
  split
  · exact ⟨(h.to (by omega)).put _ _ _, fun e => by omega⟩
  · have : n = 0 := by omega
    subst this
    exact h
/-- What holds after the Align that may stand ahead of call i. -/
structure Ready (q : Ask) (A : Int × (List UInt8 × Nat)) : Prop where
  inv : WInv A.1 A.2
  low : q.d = 0 → A.1 = 0 ∨ A.1 = 1
  high : q.d = 1 → A.1 = 0 ∨ A.1 = 2
  whole : q.d ≠ 0 → q.d ≠ 1 → A.1 = 0 ∧ A.2.2 = 0
theorem Wr_facts (f : Nat → Ask) : ∀ i, WInv (Wr f i).1 (Wr f i).2 ∧ ((Wr f i).1 = 0 ∨ ∃ j, i = j + 1 ∧ (((f j).d = 0 ∧ (Wr f i).1 = 1) ∨ ((f j).d = 1 ∧ (Wr f i).1 = 2))) ∧ Ready (f i) (stepA f i (Wr f i)) := by
  have ready : ∀ i, WInv (Wr f i).1 (Wr f i).2 → ((Wr f i).1 = 0 ∨ ∃ j, i = j + 1 ∧ (((f j).d = 0 ∧ (Wr f i).1 = 1) ∨ ((f j).d = 1 ∧ (Wr f i).1 = 2))) → Ready (f i) (stepA f i (Wr f i)) := fun i hi hc => by
    by_cases ha : al f i
    · rw [stepA_yes ha]
      exact ⟨WInv.zero _, fun _ => .inl rfl, fun _ => .inl rfl, fun _ _ => ⟨rfl, rfl⟩⟩
    · rw [stepA_no ha]
      unfold al at ha
      rcases hc with hc | ⟨j, rfl, hc⟩
      · exact ⟨hi, fun _ => .inl hc, fun _ => .inl hc, fun h0 h1 => by omega⟩
      · have hd : (f (j + 1)).d = (f j).d := by
          by_cases e : (f (j + 1)).d = (f j).d
          · exact e
          · exact absurd (.inl ⟨by omega, by simpa using e⟩) ha
        exact ⟨hi, fun _ => by omega, fun _ => by omega, fun h0 h1 => by omega⟩
  intro i
  induction i with
  | zero => exact ⟨WInv.zero _, .inl rfl, ready 0 (WInv.zero _) (.inl rfl)⟩
  | succ i ih =>
    obtain ⟨_, _, hr⟩ := ih
    have key : WInv (Wr f (i + 1)).1 (Wr f (i + 1)).2 ∧ ((Wr f (i + 1)).1 = 0 ∨ ∃ j, i + 1 = j + 1 ∧ (((f j).d = 0 ∧ (Wr f (i + 1)).1 = 1) ∨ ((f j).d = 1 ∧ (Wr f (i + 1)).1 = 2))) := by
      show WInv (stepC (f i) (stepA f i (Wr f i))).1 (stepC (f i) (stepA f i (Wr f i))).2 ∧ ((stepC (f i) (stepA f i (Wr f i))).1 = 0 ∨ ∃ j, i + 1 = j + 1 ∧ (((f j).d = 0 ∧ (stepC (f i) (stepA f i (Wr f i))).1 = 1) ∨ ((f j).d = 1 ∧ (stepC (f i) (stepA f i (Wr f i))).1 = 2)))
      generalize stepA f i (Wr f i) = A at hr ⊢
      unfold stepC
      split
      · rename_i h0
        have hl := hr.low h0
        refine ⟨hr.inv.putS _ _ (.inl rfl) hl, ?_⟩
        dsimp only
        split
        · exact .inr ⟨i, rfl, .inl ⟨h0, rfl⟩⟩
        · exact hl.imp id fun h => ⟨i, rfl, .inl ⟨h0, h⟩⟩
      · rename_i h0
        split
        · rename_i h1
          have hl := hr.high h1
          refine ⟨hr.inv.putS _ _ (.inr rfl) hl, ?_⟩
          dsimp only
          split
          · exact .inr ⟨i, rfl, .inr ⟨h1, rfl⟩⟩
          · exact hl.imp id fun h => ⟨i, rfl, .inr ⟨h1, h⟩⟩
        · rename_i h1
          obtain ⟨w1, w2⟩ := hr.whole h0 h1
          split
          · have : rawWay A.1 A.2 = 0 := by unfold rawWay; rw [if_pos w2]; exact w1
            dsimp only
            rw [this]
            exact ⟨⟨WOK.zero _ _, fun _ => rfl⟩, .inl rfl⟩
          · exact ⟨hr.inv, .inl w1⟩
    exact ⟨key.1, key.2, ready _ key.1 key.2⟩
theorem Agree.at0 {way way' : Int} {st : List UInt8 × Nat} {T : List UInt8} (h0 : st.2 = 0) (h : Agree way (pos st) st.1 T) : Agree way' (pos st) st.1 T := by
  have : pos st = 8 * st.1.length := by unfold pos; rw [if_pos h0]
  rw [this] at h ⊢
  exact h.any
/-- What call i finds when it is made again on what was written, T. -/
structure Back (q : Ask) (A B : Int × (List UInt8 × Nat)) (T : List UInt8) : Prop where
  before : Agree A.1 (pos A.2) A.2.1 T
  low : q.d = 0 → tk ⟨T.toArray⟩ 1 (pos A.2) (numN q) = (numV q : Int) ∧ pos B.2 = pos A.2 + numN q ∧ B.1 = if 0 < ((numN q : Nat) : Int) then 1 else A.1
  high : q.d = 1 → tk ⟨T.toArray⟩ 2 (pos A.2) (numN q) = (numV q : Int) ∧ pos B.2 = pos A.2 + numN q ∧ B.1 = if 0 < ((numN q : Nat) : Int) then 2 else A.1
  raw : q.d = 3 → pos B.2 = pos A.2 + 8 * q.s.size ∧ B.1 = A.1 ∧ ∀ j, j < q.s.size → T.getD (pos A.2 / 8 + j) 0 = q.s.data.toList.getD j 0
  other : q.d ≠ 0 → q.d ≠ 1 → q.d ≠ 3 → B = A
  le : pos A.2 ≤ pos B.2
theorem back_put {A : Int × (List UInt8 × Nat)} (hi : WInv A.1 A.2) {w' : Int} (hc : A.1 = 0 ∨ A.1 = w') {v n : Nat} (hv : v < 2 ^ n) {T : List UInt8}
    (ha : Agree (if 0 < ((n : Nat) : Int) then w' else A.1) (pos (putS w' v n A.2 n)) (putS w' v n A.2 n).1 T) : Agree A.1 (pos A.2) A.2.1 T ∧ tk ⟨T.toArray⟩ w' (pos A.2) n = (v : Int) ∧ pos (putS w' v n A.2 n) = pos A.2 + n := by
  have hok : WOK w' A.2 := hi.to (by omega)
  have hp := pos_put hok v n n
  by_cases hn : n = 0
  · subst hn
    have : v = 0 := by simpa using hv
    subst this
    exact ⟨ha, rfl, rfl⟩
  · rw [if_pos (by omega), hp] at ha
    obtain ⟨h1, h2⟩ := Agree.put hok v n n ha
    refine ⟨?_, tk_bits hv h2, hp⟩
    rcases hc with hc | hc
    · exact h1.at0 (hi.none hc)
    · rw [hc]; exact h1
theorem back_of {f : Nat → Ask} {i : Nat} {T : List UInt8} (ha : Agree (Wr f (i + 1)).1 (pos (Wr f (i + 1)).2) (Wr f (i + 1)).2.1 T) : Back (f i) (stepA f i (Wr f i)) (Wr f (i + 1)) T := by
  obtain ⟨_, _, hr⟩ := Wr_facts f i
  have e : Wr f (i + 1) = stepC (f i) (stepA f i (Wr f i)) := rfl
  rw [e] at ha ⊢
  generalize stepA f i (Wr f i) = A at hr ha ⊢
  unfold stepC at ha ⊢
  split at ha
  · rename_i h0
    rw [if_pos h0]
    obtain ⟨g1, g2, g3⟩ := back_put hr.inv (hr.low h0) (numV_lt _) ha
    exact ⟨g1, fun _ => ⟨g2, g3, rfl⟩, fun h => by omega, fun h => by omega, fun h => absurd h0 h, by dsimp only; omega⟩
  · rename_i h0
    rw [if_neg h0]
    split at ha
    · rename_i h1
      rw [if_pos h1]
      obtain ⟨g1, g2, g3⟩ := back_put hr.inv (hr.high h1) (numV_lt _) ha
      exact ⟨g1, fun h => by omega, fun _ => ⟨g2, g3, rfl⟩, fun h => by omega, fun _ h => absurd h1 h, by dsimp only; omega⟩
    · rename_i h1
      rw [if_neg h1]
      obtain ⟨w1, w2⟩ := hr.whole h0 h1
      have hpA : pos A.2 = 8 * A.2.1.length := by unfold pos; rw [if_pos w2]
      split at ha
      · rename_i h3
        rw [if_pos h3]
        have hsz : (f i).s.data.toList.length = (f i).s.size := Array.length_toList
        have hpB : pos (rawS A.2 (f i).s) = 8 * (A.2.1.length + (f i).s.size) := by
          show 8 * (A.2.1 ++ (f i).s.data.toList).length = _
          rw [List.length_append, hsz]
        dsimp only at ha
        rw [hpB] at ha
        have hT : ∀ j, j < A.2.1.length + (f i).s.size → T.getD j 0 = (A.2.1 ++ (f i).s.data.toList).getD j 0 := fun j hj => ha.1 j (by omega)
        refine ⟨?_, fun h => by omega, fun h => by omega, fun _ => ⟨?_, ?_, fun j hj => ?_⟩, fun _ _ h => absurd h3 h, ?_⟩
        · rw [hpA]
          exact Agree.whole fun j hj => by
            rw [hT j (by omega), List.getD_eq_getElem?_getD, List.getElem?_append_left hj, List.getD_eq_getElem?_getD]
        · dsimp only; rw [hpB, hpA]; omega
        · unfold rawWay; rw [if_pos w2]
        · rw [hpA, show 8 * A.2.1.length / 8 = A.2.1.length by omega, hT _ (by omega), List.getD_eq_getElem?_getD, List.getElem?_append_right (by omega), List.getD_eq_getElem?_getD]
          congr 2
          omega
        · dsimp only; rw [hpB, hpA]; omega
      · rename_i h3
        rw [if_neg h3]
        exact ⟨ha, fun h => by omega, fun h => by omega, fun h => absurd h h3, fun _ _ _ => rfl, Nat.le_refl _⟩
theorem stepA_agree {f : Nat → Ask} {i : Nat} {T : List UInt8} (ha : Agree (stepA f i (Wr f i)).1 (pos (stepA f i (Wr f i)).2) (stepA f i (Wr f i)).2.1 T) :
    Agree (Wr f i).1 (pos (Wr f i).2) (Wr f i).2.1 T ∧ pos (Wr f i).2 ≤ pos (stepA f i (Wr f i)).2 := by
  by_cases h : al f i
  · rw [stepA_yes h] at ha ⊢
    have hT : ∀ j, j < (Wr f i).2.1.length → T.getD j 0 = (Wr f i).2.1.getD j 0 := fun j hj => ha.1 j (by show j < 8 * (Wr f i).2.1.length / 8; omega)
    have hok := (Wr_facts f i).1.ok
    have hlt := hok.lt
    have hne := hok.ne
    have hl : pos (Wr f i).2 ≤ 8 * (Wr f i).2.1.length := by
      unfold pos
      split
      · omega
      · rename_i h0
        have := List.length_pos_iff.2 (hne h0)
        omega
    refine ⟨⟨fun j hj => hT j (by omega), fun k hk => ?_⟩, ?_⟩
    · unfold nb
      rw [hT _ (by omega)]
    · show _ ≤ 8 * (Wr f i).2.1.length
      exact hl
  · rw [stepA_no h] at ha ⊢
    exact ⟨ha, Nat.le_refl _⟩
/-- What was written by N calls agrees with what each call left. -/
theorem agree_all (f : Nat → Ask) (N : Nat) : ∀ k i, i + k = N → Agree (Wr f i).1 (pos (Wr f i).2) (Wr f i).2.1 (Wr f N).2.1 ∧ pos (Wr f i).2 ≤ pos (Wr f N).2
  | 0, i, h => by
    have : i = N := by omega
    subst this
    exact ⟨Agree.refl _ _ _, Nat.le_refl _⟩
  | k + 1, i, h => by
    obtain ⟨h1, h2⟩ := agree_all f N k (i + 1) (by omega)
    have hb := back_of h1
    obtain ⟨h3, h4⟩ := stepA_agree hb.before
    have := hb.le
    exact ⟨h3, by omega⟩
theorem pos_le (f : Nat → Ask) (i : Nat) : pos (Wr f i).2 ≤ 8 * (Wr f i).2.1.length ∧ 8 * (Wr f i).2.1.length < pos (Wr f i).2 + 8 := by
  have hok := (Wr_facts f i).1.ok
  have hlt := hok.lt
  unfold pos
  split
  · omega
  · rename_i h0
    have := List.length_pos_iff.2 (hok.ne h0)
    omega
theorem Wr_len (f : Nat → Ask) : ∀ i, (∀ j, j < i → (f j).s.size ≤ 300) → (Wr f i).2.1.length ≤ 300 * i
  | 0, _ => by simp [Wr]
  | i + 1, h => by
    have ih := Wr_len f i fun j hj => h j (by omega)
    have hA : (stepA f i (Wr f i)).2.1 = (Wr f i).2.1 := by
      by_cases ha : al f i
      · rw [stepA_yes ha]
      · rw [stepA_no ha]
    have hi := h i (by omega)
    have hn := numN_lt (f i)
    show (stepC (f i) (stepA f i (Wr f i))).2.1.length ≤ _
    unfold stepC
    split
    · have := putS_len 1 (numV (f i)) (numN (f i)) (stepA f i (Wr f i)).2 (numN (f i))
      rw [hA] at this
      dsimp only; omega
    · split
      · have := putS_len 2 (numV (f i)) (numN (f i)) (stepA f i (Wr f i)).2 (numN (f i))
        rw [hA] at this
        dsimp only; omega
      · split
        · have hsz : (f i).s.data.toList.length = (f i).s.size := Array.length_toList
          show ((stepA f i (Wr f i)).2.1 ++ (f i).s.data.toList).length ≤ _
          rw [List.length_append, hA, hsz]; omega
        · rw [hA]; omega
/-- A part of the bytes, as a string. -/
theorem extract_eq {T : List UInt8} {s : ByteArray} {a : Nat} (hl : a + s.size ≤ T.length) (h : ∀ j, j < s.size → T.getD (a + j) 0 = s.data.toList.getD j 0) : (⟨T.toArray⟩ : ByteArray).extract a (a + s.size) = s := by
  apply ByteArray.ext
  rw [ByteArray.data_extract]
  apply Array.ext
  · simp only [Array.size_extract, List.size_toArray]
    show min (a + s.size) T.length - a = s.size
    omega
  · intro i h1 h2
    have hi : i < s.size := h2
    have := h i hi
    rw [List.getD_eq_getElem?_getD, List.getD_eq_getElem?_getD, List.getElem?_eq_getElem (by omega), List.getElem?_eq_getElem (by rw [Array.length_toList]; exact h2)] at this
    simpa using this
end Bit
end Go.Proofs.Ytapgacggllbhiaa
