/- Hints: what is written is read back; plain law. No condition but validity. -/
import Derived.Test.YtjlaijhmnlkpiaaHiG
namespace Go.Proofs.Ytjlaijhmnlkpiaa
namespace Hint
open Sh Bit
set_option linter.unusedVariables false
set_option linter.unusedSimpArgs false
set_option maxRecDepth 4000
set_option maxHeartbeats 1000000
/-- T agrees with what has been written. -/
def Ag (W : WS) (T : List UInt8) : Prop := Agree W.2 (pos W.1) W.1.1 T
def Ok (W : WS) : Prop := WInv W.2 W.1 ∧ (W.2 = 0 ∨ W.2 = 2)
theorem Ok.hi {W : WS} (h : Ok W) (v n : Int) : Ok (hiW W v n) := ⟨hiW_inv h.1 v n, hi_way h.2 v n⟩
theorem Ok.al {W : WS} (h : Ok W) : Ok (alW W) := ⟨WInv.zero _, .inl rfl⟩
theorem hi_back {W : WS} (h : Ok W) {v : Int} {n : Nat} (hv : 0 ≤ v ∧ v < 2 ^ n) (hn : n ≤ 24) {T : List UInt8} (ha : Ag (hiW W v n) T) :
    Ag W T ∧ tk ⟨T.toArray⟩ 2 (pos W.1) n = v ∧ pos (hiW W v n).1 = pos W.1 + n := by
  obtain ⟨u, rfl⟩ := Int.eq_ofNat_of_zero_le hv.1
  have hu : u < 2 ^ n := by exact_mod_cast hv.2
  have e : hiW W (u : Int) n = (putS 2 u n W.1 n, if 0 < (n : Int) then 2 else W.2) := by
    have hw := h.2
    have hpow : ¬ (2 : Int) ^ n ≤ (u : Int) := by
      have : ((2 ^ n : Nat) : Int) = 2 ^ n := by simp
      omega
    unfold hiW
    rw [putR_ok (by
      intro hc
      rcases hc with hc | hc | hc | hc | hc
      · omega
      · omega
      · omega
      · exact hpow (by simpa using hc)
      · omega)]
    simp
  rw [e] at ha ⊢
  exact back_put (A := (W.2, W.1)) h.1 h.2 hu ha
theorem pos_bd {W : WS} (h : Ok W) : pos W.1 ≤ 8 * W.1.1.length ∧ 8 * W.1.1.length < pos W.1 + 8 := by
  have hw := h.1.ok
  unfold pos
  split
  · omega
  · rename_i h2
    have h3 := hw.lt
    have h4 : W.1.1.length ≠ 0 := fun e => (grow_ne hw) (by unfold grow; rw [if_neg h2]; exact List.eq_nil_of_length_eq_zero e)
    omega
theorem al_back {W : WS} (h : Ok W) {T : List UInt8} (ha : Ag (alW W) T) : Ag W T ∧ pos (alW W).1 = (pos W.1 + 7) / 8 * 8 := by
  have hb := pos_bd h
  have e : pos (alW W).1 = 8 * W.1.1.length := rfl
  refine ⟨?_, by rw [e]; omega⟩
  unfold Ag at ha ⊢
  rw [e] at ha
  have hj : ∀ j, j < W.1.1.length → T.getD j 0 = W.1.1.getD j 0 := fun j hj => ha.1 j (by show j < 8 * W.1.1.length / 8; omega)
  refine ⟨fun j hj' => hj j (by omega), fun k hk => ?_⟩
  unfold nb
  rw [hj _ (by omega)]
theorem Vc_ok {L : List Hi} {c : Int} {W : WS} (h : Ok W) : ∀ i, Ok (Vc L c W i)
  | 0 => h
  | i + 1 => (Vc_ok h i).hi _ _
theorem need_gt {n : Int} : n < 2 ^ (need n).toNat := by
  unfold need
  split
  · rename_i h
    have : (0 : Int) < 2 ^ (0 : Int).toNat := by decide
    omega
  · rename_i h
    have h1 := Nat.lt_log2_self (n := n.toNat)
    have e : (((n.toNat.log2 + 1 : Nat) : Int)).toNat = n.toNat.log2 + 1 := by omega
    rw [e]
    have : ((2 ^ (n.toNat.log2 + 1) : Nat) : Int) = 2 ^ (n.toNat.log2 + 1) := by simp
    omega
section
variable {L : List Hi} {T : List UInt8}
/-- What is known of valid hints. -/
structure Vd (L : List Hi) : Prop where
  n0 : L.length ≠ 0
  n1 : L.length ≤ 2048
  col : ∀ c : Int, ∀ i, i < L.length → 0 ≤ col (L.getD i (0, 0, 0)) c ∧ col (L.getD i (0, 0, 0)) c ≤ 1048576
theorem Vd.wd (h : Vd L) (c : Int) : 0 ≤ wd L c ∧ wd L c ≤ 21 := wd_bd (h.col c) h.n0
theorem Vd.ll (h : Vd L) (c : Int) : 0 ≤ ll L c ∧ ll L c ≤ 1048576 := by
  have := lo_bd (h.col c) h.n0 L.length (Nat.le_refl _)
  exact ⟨this.1, this.2.1⟩
theorem Vd.val (h : Vd L) (c : Int) {i : Nat} (hi' : i < L.length) : 0 ≤ Hint.col (L.getD i (0, 0, 0)) c - Hint.ll L c ∧ Hint.col (L.getD i (0, 0, 0)) c - Hint.ll L c < 2 ^ (Hint.wd L c).toNat := by
  have := (lo_bd (h.col c) h.n0 L.length (Nat.le_refl _)).2.2.2.2.2 i hi'
  have h2 := need_gt (n := hi L c L.length - lo L c L.length)
  unfold Hint.wd Hint.ll
  omega
theorem Vc_back (hd : Vd L) (c : Int) {W : WS} (h : Ok W) : ∀ i, i ≤ L.length → Ag (Vc L c W i) T → Ag W T ∧ pos (Vc L c W i).1 = pos W.1 + i * (wd L c).toNat ∧ ∀ j, j < i → tk ⟨T.toArray⟩ 2 (pos W.1 + j * (wd L c).toNat) (wd L c).toNat = col (L.getD j (0, 0, 0)) c - ll L c
  | 0, _, ha => ⟨ha, by simp [Vc], fun j hj => by omega⟩
  | i + 1, hi', ha => by
    have hw := hd.wd c
    have e : wd L c = (((wd L c).toNat : Nat) : Int) := by omega
    have ha' : Ag (hiW (Vc L c W i) (col (L.getD i (0, 0, 0)) c - ll L c) (((wd L c).toNat : Nat) : Int)) T := by rw [← e]; exact ha
    obtain ⟨h1, h2, h3⟩ := hi_back (Vc_ok h i) (hd.val c (by omega)) (by omega) ha'
    obtain ⟨g1, g2, g3⟩ := Vc_back hd c h i (by omega) h1
    refine ⟨g1, ?_, fun j hj => ?_⟩
    · show pos (hiW (Vc L c W i) (col (L.getD i (0, 0, 0)) c - ll L c) (wd L c)).1 = _
      rw [e, h3, g2, Nat.add_mul, ← e]
      omega
    · by_cases hji : j = i
      · subst hji; rw [← g2]; exact h2
      · exact g3 j (by omega)
def offL (L : List Hi) : Nat → Nat
  | 0 => 176
  | c + 1 => (offL L c + L.length * (wd L (c : Int)).toNat + 7) / 8 * 8
/-- What the bits of the text say. -/
structure GF (s : ByteArray) (L : List Hi) : Prop where
  len : tk s 2 0 32 = (L.length : Int)
  low : ∀ c : Nat, c < 3 → tk s 2 (32 + 32 * c) 32 = ll L c
  wid : ∀ c : Nat, c < 3 → tk s 2 (128 + 16 * c) 16 = wd L c
  val : ∀ c : Nat, c < 3 → ∀ k, k < L.length → tk s 2 (offL L c + k * (wd L c).toNat) (wd L c).toNat = col (L.getD k (0, 0, 0)) c - ll L c
  size : 8 * s.size = offL L 3
theorem offL_le (L : List Hi) (c : Nat) : offL L c + L.length * (wd L (c : Int)).toNat ≤ offL L (c + 1) := by
  show _ ≤ (offL L c + L.length * (wd L (c : Int)).toNat + 7) / 8 * 8
  omega
theorem two16 (v : Int) (h : 0 ≤ v ∧ v ≤ 1048576) : (0 ≤ v / 65536 ∧ v / 65536 < 2 ^ 16) ∧ (0 ≤ v % 65536 ∧ v % 65536 < 2 ^ 16) := by
  have : (2 : Int) ^ 16 = 65536 := by decide
  omega
theorem hi2_back {W : WS} (h : Ok W) {v : Int} (hv : 0 ≤ v ∧ v ≤ 1048576) (ha : Ag (hiW (hiW W (v / 65536) 16) (v % 65536) 16) T) : Ag W T ∧ tk ⟨T.toArray⟩ 2 (pos W.1) 32 = v ∧ pos (hiW (hiW W (v / 65536) 16) (v % 65536) 16).1 = pos W.1 + 32 := by
  obtain ⟨t1, t2⟩ := two16 v hv
  obtain ⟨a1, a2, a3⟩ := hi_back (n := 16) (h.hi (v / 65536) 16) t2 (by omega) ha
  obtain ⟨b1, b2, b3⟩ := hi_back (n := 16) h t1 (by omega) a1
  have b3' : pos (hiW W (v / 65536) 16).1 = pos W.1 + 16 := b3
  refine ⟨b1, ?_, ?_⟩
  · rw [show (32 : Nat) = 16 + 16 by rfl, tk_high, b2, ← b3', a2]
    have : (2 : Int) ^ 16 = 65536 := by decide
    rw [this]
    omega
  · have a3' : pos (hiW (hiW W (v / 65536) 16) (v % 65536) 16).1 = pos (hiW W (v / 65536) 16).1 + 16 := a3
    rw [a3', b3']
theorem ok0 : Ok (([], 0), 0) := ⟨WInv.zero _, .inl rfl⟩
theorem E0_ok (L : List Hi) : Ok (E0 L) := (ok0.hi _ _).hi _ _
theorem E1_ok (L : List Hi) : ∀ k, Ok (E1 L k)
  | 0 => E0_ok L
  | k + 1 => ((E1_ok L k).hi _ _).hi _ _
theorem E2_ok (L : List Hi) : ∀ k, Ok (E2 L k)
  | 0 => E1_ok L 3
  | k + 1 => (E2_ok L k).hi _ _
theorem A3_ok (L : List Hi) : ∀ k, Ok (A3 L k)
  | 0 => E2_ok L 3
  | k + 1 => (Vc_ok (A3_ok L k) L.length).al
theorem E1_back (hd : Vd L) : ∀ k, Ag (E1 L k) T → Ag (E0 L) T ∧ pos (E1 L k).1 = pos (E0 L).1 + 32 * k ∧ ∀ j : Nat, j < k → tk ⟨T.toArray⟩ 2 (pos (E0 L).1 + 32 * j) 32 = ll L j
  | 0, ha => ⟨ha, rfl, fun j hj => by omega⟩
  | k + 1, ha => by
    obtain ⟨a1, a2, a3⟩ := hi2_back (E1_ok L k) (hd.ll (k : Int)) ha
    obtain ⟨b1, b2, b3⟩ := E1_back hd k a1
    have a3' : pos (E1 L (k + 1)).1 = pos (E1 L k).1 + 32 := a3
    refine ⟨b1, by omega, fun j hj => ?_⟩
    by_cases hjk : j = k
    · subst hjk; rw [← b2]; exact a2
    · exact b3 j (by omega)
theorem E2_back (hd : Vd L) : ∀ k, Ag (E2 L k) T → Ag (E1 L 3) T ∧ pos (E2 L k).1 = pos (E1 L 3).1 + 16 * k ∧ ∀ j : Nat, j < k → tk ⟨T.toArray⟩ 2 (pos (E1 L 3).1 + 16 * j) 16 = wd L j
  | 0, ha => ⟨ha, rfl, fun j hj => by omega⟩
  | k + 1, ha => by
    have hw := hd.wd (k : Int)
    have h16 : (2 : Int) ^ 16 = 65536 := by decide
    obtain ⟨a1, a2, a3⟩ := hi_back (n := 16) (E2_ok L k) (v := wd L (k : Int)) (by omega) (by omega) ha
    obtain ⟨b1, b2, b3⟩ := E2_back hd k a1
    have a3' : pos (E2 L (k + 1)).1 = pos (E2 L k).1 + 16 := a3
    refine ⟨b1, by omega, fun j hj => ?_⟩
    by_cases hjk : j = k
    · subst hjk; rw [← b2]; exact a2
    · exact b3 j (by omega)
theorem A3_back (hd : Vd L) (h0 : pos (A3 L 0).1 = 176) : ∀ k, Ag (A3 L k) T → Ag (E2 L 3) T ∧ pos (A3 L k).1 = offL L k ∧ ∀ j : Nat, j < k → ∀ i, i < L.length → tk ⟨T.toArray⟩ 2 (offL L j + i * (wd L j).toNat) (wd L j).toNat = col (L.getD i (0, 0, 0)) j - ll L j
  | 0, ha => ⟨ha, h0, fun j hj => by omega⟩
  | k + 1, ha => by
    obtain ⟨a1, a2⟩ := al_back (Vc_ok (A3_ok L k) L.length) ha
    obtain ⟨b1, b2, b3⟩ := Vc_back hd (k : Int) (A3_ok L k) L.length (Nat.le_refl _) a1
    obtain ⟨c1, c2, c3⟩ := A3_back hd h0 k b1
    have a2' : pos (A3 L (k + 1)).1 = (pos (Vc L (k : Int) (A3 L k) L.length).1 + 7) / 8 * 8 := a2
    refine ⟨c1, by rw [a2', b2, c2]; rfl, fun j hj i hi' => ?_⟩
    by_cases hjk : j = k
    · subst hjk; rw [← c2]; exact b3 i hi'
    · exact c3 j (by omega) i hi'
theorem E0_back (hd : Vd L) (ha : Ag (E0 L) T) : tk ⟨T.toArray⟩ 2 0 32 = (L.length : Int) ∧ pos (E0 L).1 = 32 := by
  have h1 := hd.n1
  obtain ⟨a1, a2, a3⟩ := hi2_back ok0 (v := (L.length : Int)) (by omega) ha
  exact ⟨a2, a3⟩
theorem pos_E2 (hd : Vd L) : pos (E2 L 3).1 = 176 := by
  obtain ⟨a1, a2, _⟩ := E2_back hd (T := (E2 L 3).1.1) 3 (Agree.refl _ _ _)
  obtain ⟨b1, b2, _⟩ := E1_back hd 3 a1
  obtain ⟨_, c2⟩ := E0_back hd b1
  omega
/-- The bytes of the text. -/
def bytesH (L : List Hi) : ByteArray := ⟨(A3 L 3).1.1.toArray⟩
theorem gf (h : whyH L = 0) : GF (bytesH L) L := by
  obtain ⟨n0, n1, hc⟩ := whyH_zero h
  have hd : Vd L := ⟨n0, n1, hc⟩
  obtain ⟨a1, a2, a3⟩ := A3_back hd (pos_E2 hd) (T := (A3 L 3).1.1) 3 (Agree.refl _ _ _)
  obtain ⟨b1, b2, b3⟩ := E2_back hd 3 a1
  obtain ⟨c1, c2, c3⟩ := E1_back hd 3 b1
  obtain ⟨d1, d2⟩ := E0_back hd c1
  refine ⟨d1, fun c hc => ?_, fun c hc => ?_, fun c hc k hk => a3 c hc k hk, ?_⟩
  · have h := c3 c hc
    rw [d2] at h
    exact h
  · have h := b3 c hc
    rw [show pos (E1 L 3).1 = 128 by omega] at h
    exact h
  · have e : (A3 L 3).1.2 = 0 := rfl
    have hp : pos (A3 L 3).1 = 8 * (A3 L 3).1.1.length := by unfold pos; rw [if_pos e]
    rw [← a2, hp]
    show 8 * ((A3 L 3).1.1.toArray).size = _
    simp
end
end Hint
end Go.Proofs.Ytjlaijhmnlkpiaa
